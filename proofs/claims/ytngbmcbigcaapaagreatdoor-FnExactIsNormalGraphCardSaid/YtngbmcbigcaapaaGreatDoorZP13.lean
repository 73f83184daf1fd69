/-
  Plain laws: a graph that hangs together with its interface is walked whole; the canonical graph does not depend on the wires' numbers. No program in sight. No condition.
-/
import Derived.Test.YtngbmcbigcaapaaGreatDoorZP94
namespace Go.Proofs.YtngbmcbigcaapaaGreatDoor
set_option linter.unusedVariables false
structure Ij (n:Nat) (t:Nat→Int):Prop where
 r:∀ k,k<n→0≤t k∧t k<(n:Int)
 i:∀ j k,j<n→k<n→t j=t k→j=k
section
variable {n:Nat}{t:Nat→Int} (h:Ij n t)
include h
theorem Ij.rg {l:List Int} (hl:fC n l):fC n (mp t l):=fun x hx=>by
 obtain ⟨y,hy,rfl⟩:=List.mem_map.1 hx
 have:=hl y hy
 exact h.r _ (by omega)
theorem Ij.mem {l:List Int} (hl:fC n l){k:Nat} (hk:k<n):t k∈mp t l↔(k:Int)∈l:=by
 constructor
 ·
  intro hx
  obtain ⟨y,hy,e⟩:=List.mem_map.1 hx
  have:=hl y hy
  have:=h.i _ _ (by omega) hk e
  rw [←this,show ((y.toNat:Nat):Int)=y by omega];exact hy
 ·
  intro hx
  exact List.mem_map.2 ⟨(k:Int),hx,rfl⟩
theorem Ij.giv1 {o:List Int} (ho:fC n o){w:Int} (hw:0≤w∧w<(n:Int)):giv1 (mp t o) (t w.toNat)=mp t (giv1 o w):=by
 have hm:=h.mem ho (k:=w.toNat) (by omega)
 rw [show ((w.toNat:Nat):Int)=w by omega] at hm
 unfold Go.Proofs.YtngbmcbigcaapaaGreatDoor.giv1
 by_cases hin:w∈o
 · rw [if_pos hin,if_pos (hm.2 hin)]
 ·
  rw [if_neg hin,if_neg (fun e=>hin (hm.1 e))]
  unfold mp
  rw [List.map_append];rfl
theorem Ij.giv:∀ {l o:List Int},Od n o→fC n l→giv (mp t o) (mp t l)=mp t (giv o l)
 | [],o,_,_=>rfl
 | w::l,o,ho,hl=>by
  have hw:=hl w (.head _)
  show Go.Proofs.YtngbmcbigcaapaaGreatDoor.giv (Go.Proofs.YtngbmcbigcaapaaGreatDoor.giv1 (mp t o) (t w.toNat)) (mp t l)=mp t (Go.Proofs.YtngbmcbigcaapaaGreatDoor.giv (Go.Proofs.YtngbmcbigcaapaaGreatDoor.giv1 o w) l)
  rw [h.giv1 ho.r hw]
  exact Ij.giv (ho.giv1 hw) (fun x hx=>hl x (.tail _ hx))
theorem Ij.whrF (s:Edg→List Int) (hs:∀ e,s (mpE t e)=mp t (s e)){k:Nat} (hk:k<n):∀ {E:List Edg}{i:Nat}{a:Int},(∀ e∈E,fC n (s e))→whrF s (E.map (mpE t)) i (t k) a=whrF s E i k a
 | [],_,_,_=>rfl
 | e::E,i,a,hE=>by
  show Go.Proofs.YtngbmcbigcaapaaGreatDoor.whrF s (E.map (mpE t)) (i+1) (t k) (if t k∈s (mpE t e) then (i:Int) else a)=Go.Proofs.YtngbmcbigcaapaaGreatDoor.whrF s E (i+1) k (if (k:Int)∈s e then (i:Int) else a)
  rw [Ij.whrF s hs hk (fun e he=>hE e (.tail _ he)),hs]
  have:=h.mem (hE e (.head _)) hk
  by_cases hin:(k:Int)∈s e
  · rw [if_pos hin,if_pos (this.2 hin)]
  · rw [if_neg hin,if_neg (fun e=>hin (this.1 e))]
theorem Ij.stE {E:List Edg} (hE:nE n E){s:WS} (ho:Od n s.1) (e:Int):stE (E.map (mpE t)) (mp t s.1,s.2) e=(mp t (stE E s e).1,(stE E s e).2):=by
 unfold Go.Proofs.YtngbmcbigcaapaaGreatDoor.stE
 by_cases hc:e<0∨e∈s.2
 · rw [if_pos hc,if_pos hc]
 ·
  rw [if_neg hc,if_neg hc,List.getElem?_map]
  cases hx:E[e.toNat]? with
  | none=>rfl
  | some x=>
   have hm:=List.mem_of_getElem? hx
   show (Go.Proofs.YtngbmcbigcaapaaGreatDoor.giv (mp t s.1) (mp t (edI x)++mp t (edO x)),_)=_
   rw [show mp t (edI x)++mp t (edO x)=mp t (edI x++edO x) from List.map_append.symm,h.giv ho (vH (hE x hm).1 (hE x hm).2)]
theorem Ij.wlk {E:List Edg} (hE:nE n E){s:WS} (hs:Ws n E.length s):∀ k,wlk (E.map (mpE t)) (mp t s.1,s.2) k=(mp t (wlk E s k).1,(wlk E s k).2)
 | 0=>rfl
 | k+1=>by
  have ih:=Ij.wlk hE hs k
  have hok:=xL hE hs k
  show (match (Go.Proofs.YtngbmcbigcaapaaGreatDoor.wlk (E.map (mpE t)) (mp t s.1,s.2) k).1[k]? with
   | some w=>stW (E.map (mpE t)) (Go.Proofs.YtngbmcbigcaapaaGreatDoor.wlk (E.map (mpE t)) (mp t s.1,s.2) k) w
   | none=>Go.Proofs.YtngbmcbigcaapaaGreatDoor.wlk (E.map (mpE t)) (mp t s.1,s.2) k)=(mp t (match (Go.Proofs.YtngbmcbigcaapaaGreatDoor.wlk E s k).1[k]? with
   | some w=>stW E (Go.Proofs.YtngbmcbigcaapaaGreatDoor.wlk E s k) w
   | none=>Go.Proofs.YtngbmcbigcaapaaGreatDoor.wlk E s k).1,(match (Go.Proofs.YtngbmcbigcaapaaGreatDoor.wlk E s k).1[k]? with
   | some w=>stW E (Go.Proofs.YtngbmcbigcaapaaGreatDoor.wlk E s k) w
   | none=>Go.Proofs.YtngbmcbigcaapaaGreatDoor.wlk E s k).2)
  rw [ih]
  dsimp only
  rw [show (mp t (Go.Proofs.YtngbmcbigcaapaaGreatDoor.wlk E s k).1)[k]?=(Go.Proofs.YtngbmcbigcaapaaGreatDoor.wlk E s k).1[k]?.map (fun x=>t x.toNat) from List.getElem?_map]
  cases hx:(Go.Proofs.YtngbmcbigcaapaaGreatDoor.wlk E s k).1[k]? with
  | none=>rfl
  | some w=>
   have hr:=hok.o.r w (List.mem_of_getElem? hx)
   have e:((w.toNat:Nat):Int)=w:=by omega
   have w1:=h.whrF edI (fun e=>rfl) (k:=w.toNat) (by omega) (E:=E) (i:=0) (a:=-1) (fun e he=>(hE e he).1)
   have w2:=h.whrF edO (fun e=>rfl) (k:=w.toNat) (by omega) (E:=E) (i:=0) (a:=-1) (fun e he=>(hE e he).2)
   rw [e] at w1 w2
   show stW (E.map (mpE t)) (mp t (Go.Proofs.YtngbmcbigcaapaaGreatDoor.wlk E s k).1,(Go.Proofs.YtngbmcbigcaapaaGreatDoor.wlk E s k).2) (t w.toNat)=(mp t (stW E (Go.Proofs.YtngbmcbigcaapaaGreatDoor.wlk E s k) w).1,(stW E (Go.Proofs.YtngbmcbigcaapaaGreatDoor.wlk E s k) w).2)
   unfold stW
   rw [show whr edI (E.map (mpE t)) (t w.toNat)=whr edI E w from w1,show whr edO (E.map (mpE t)) (t w.toNat)=whr edO E w from w2,h.stE hE hok.o]
   exact h.stE hE (vO hE hok (qG _ _ _)).o _
theorem Ij.walk {g:Gra} (hg:Rgd n g) (w:Int):walk n (mpG w t g)=(mp t (walk n g).1,(walk n g).2):=by
 have h1:=h.giv (eJ n) hg.i
 have h2:=h.giv ((eJ n).giv hg.i) hg.o
 unfold Go.Proofs.YtngbmcbigcaapaaGreatDoor.walk
 rw [←h.wlk hg.e (jT hg.i hg.o)]
 show Go.Proofs.YtngbmcbigcaapaaGreatDoor.wlk _ (Go.Proofs.YtngbmcbigcaapaaGreatDoor.giv (Go.Proofs.YtngbmcbigcaapaaGreatDoor.giv (mp t []) (mp t g.2.2.1)) (mp t g.2.2.2),[]) n=_
 rw [h1,h2];rfl
theorem Ij.plcF {k:Nat} (hk:k<n):∀ {l:List Int}{i:Nat},fC n l→plcF (mp t l) i (t k)=plcF l i k
 | [],_,_=>rfl
 | a::l,i,hl=>by
  have ha:=hl a (.head _)
  show (if t a.toNat=t k then (i:Int) else Go.Proofs.YtngbmcbigcaapaaGreatDoor.plcF (mp t l) (i+1) (t k))=if a=(k:Int) then (i:Int) else Go.Proofs.YtngbmcbigcaapaaGreatDoor.plcF l (i+1) k
  rw [Ij.plcF hk (fun x hx=>hl x (.tail _ hx))]
  by_cases e:a=(k:Int)
  · rw [if_pos e,if_pos (by rw [e];rfl)]
  · rw [if_neg e,if_neg (fun e2=>e (by have:=h.i _ _ (by omega) hk e2;omega))]
theorem Ij.rgd {g:Gra} (hg:Rgd n g) (w:Int):Rgd n (mpG w t g):=by
 have key:∀ (s:Edg→List Int) (hs:∀ e,s (mpE t e)=mp t (s e)) (E:List Edg),rC (E.map (mpE t)) s=rC E s:=by
  intro s hs E
  induction E with
  | nil=>rfl
  | cons e E ih=>
   unfold rC at ih ⊢
   simp only [List.map_cons,List.flatten_cons,List.length_append]
   rw [hs,mp_len,ih]
 refine ⟨h.rg hg.i,h.rg hg.o,fun e he=>?_,?_,?_,?_,?_,?_⟩
 ·
  obtain ⟨x,hx,rfl⟩:=List.mem_map.1 he
  exact ⟨h.rg (hg.e x hx).1,h.rg (hg.e x hx).2⟩
 · exact (mp_len t _).symm ▸ hg.li
 · exact (mp_len t _).symm ▸ hg.lo
 · exact (List.length_map (as:=g.2.1) (mpE t)).symm ▸ hg.le
 · exact (key edI (fun _=>rfl) g.2.1).symm ▸ hg.ti
 · exact (key edO (fun _=>rfl) g.2.1).symm ▸ hg.to
theorem Ij.full {g:Gra} (hg:Rgd n g) (w:Int) (hf:Full n g):Full n (mpG w t g):=by
 have hw:=h.walk hg w
 have hl:(Go.Proofs.YtngbmcbigcaapaaGreatDoor.walk n g).1.length=n:=by
  have ho:=(aJ hg).o
  rw [←yQ ho.r ho.d]
  exact seenN_full.2 hf.w
 have ho:=(aJ (h.rgd hg w)).o
 have hl2:(Go.Proofs.YtngbmcbigcaapaaGreatDoor.walk n (mpG w t g)).1.length=n:=by
  rw [hw]
  exact (mp_len _ _).trans hl
 refine ⟨seenN_full.1 ((yQ ho.r ho.d).trans hl2),fun i hi=>?_,fun e he=>?_⟩
 ·
  rw [hw]
  exact hf.e i (by simpa [mpG] using hi)
 ·
  obtain ⟨x,hx,rfl⟩:=List.mem_map.1 he
  have:=hf.ne x hx
  show mp t (edI x)++mp t (edO x)≠[]
  rw [show mp t (edI x)++mp t (edO x)=mp t (edI x++edO x) from List.map_append.symm]
  exact fun e=>this (List.map_eq_nil_iff.1 e)
theorem Ij.cnG {g:Gra} (hg:Rgd n g) (w:Int):cnG n (mpG w t g)=cnG n g:=by
 have hw:=h.walk hg w
 have ho:=(aJ hg).o
 have hmp:∀ l,fC n l→mp (fun k=>plc (mp t (Go.Proofs.YtngbmcbigcaapaaGreatDoor.walk n g).1) k) (mp t l)=mp (fun k=>plc (Go.Proofs.YtngbmcbigcaapaaGreatDoor.walk n g).1 k) l:=by
  intro l hl
  unfold mp
  rw [List.map_map]
  refine List.map_congr_left fun x hx=>?_
  have hx:=hl x hx
  have hr:=h.r x.toNat (by omega)
  show plc (List.map _ _) (((t x.toNat).toNat:Nat):Int)=plc _ ((x.toNat:Nat):Int)
  rw [show (((t x.toNat).toNat:Nat):Int)=t x.toNat by omega]
  exact h.plcF (by omega) ho.r
 unfold Go.Proofs.YtngbmcbigcaapaaGreatDoor.cnG renG
 rw [hw]
 show (_,setsL (g.2.1.map (mpE t)).length _ ((g.2.1.map (mpE t)).map (mpE _)) (g.2.1.map (mpE t)).length,mp _ (mp t g.2.2.1),mp _ (mp t g.2.2.2))=_
 rw [hmp _ hg.i,hmp _ hg.o,List.length_map,List.map_map]
 refine Prod.ext rfl (Prod.ext ?_ rfl)
 dsimp only
 congr 1
 refine List.map_congr_left fun e he=>?_
 show (_,_,mp _ (mp t (edI e)),mp _ (mp t (edO e)))=(_,_,_,_)
 rw [hmp _ (hg.e e he).1,hmp _ (hg.e e he).2];rfl
end
def Con (n:Nat) (g:Gra):Prop:=∀ S:Int→Prop,(∀ x∈g.2.2.1,S x)→(∀ x∈g.2.2.2,S x)→(∀ e∈g.2.1,(∃ x∈edI e++edO e,S x)→∀ x∈edI e++edO e,S x)→∀ k:Nat,k<n→S (k:Int)
theorem Bh_ {s:Edg→List Int}{E:List Edg} (hd:(E.map s).flatten.Nodup){i:Nat} (hi:i<E.length){x:Int} (hx:x∈s E[i]):whr s E x=(i:Int):=by
 rcases B1_ s E x with ⟨_,h⟩ | ⟨j,hj,h,hxj⟩
 · exact (h _ (List.getElem_mem hi) hx).elim
 ·
  have hp:=(List.pairwise_flatten.1 hd).2
  rw [List.pairwise_map,List.pairwise_iff_getElem] at hp
  rcases Nat.lt_trichotomy i j with hl | he | hl
  · exact (hp i j hi hj hl x hx x hxj rfl).elim
  · rw [h,he]
  · exact (hp j i hj hi hl x hxj x hx rfl).elim
theorem Bl_ (E:List Edg) (s:WS) (e:Int):∃ r,(stE E s e).2=s.2++r:=by
 unfold stE
 split
 · exact ⟨[],by simp⟩
 ·
  split
  · exact ⟨_,rfl⟩
  · exact ⟨[],by simp⟩
theorem CL_ {E:List Edg}{s:WS}{e:Int} (he:e = -1∨0≤e∧e<(E.length:Int)):e<0∨e∈(stE E s e).2:=by
 unfold stE
 by_cases hc:e<0∨e∈s.2
 · rw [if_pos hc];exact hc
 ·
  rw [if_neg hc]
  rw [not_or] at hc
  rw [List.getElem?_eq_getElem (show e.toNat<E.length by omega)]
  exact .inr (by simp)
def Clo (E:List Edg) (s:WS):Prop:=∀ e∈s.2,∃ i,∃ h:i<E.length,e=(i:Int)∧∀ x∈edI E[i]++edO E[i],x∈s.1
theorem B9_ {E:List Edg}{s:WS} (h:Clo E s) (e:Int):Clo E (stE E s e):=by
 intro d hd
 obtain ⟨r,hr⟩:=bJ E s e
 have old:d∈s.2→∃ i,∃ h:i<E.length,d=(i:Int)∧∀ x∈edI E[i]++edO E[i],x∈(stE E s e).1:=fun hd=>by
  obtain ⟨i,hi,h1,h2⟩:=h d hd
  exact ⟨i,hi,h1,fun x hx=>by rw [hr];exact List.mem_append_left _ (h2 x hx)⟩
 by_cases hc:e<0∨e∈s.2
 ·
  have hs:stE E s e=s:=by unfold stE;rw [if_pos hc]
  rw [hs] at hd
  exact old hd
 ·
  cases hx:E[e.toNat]? with
  | none=>
   have hs:stE E s e=s:=by unfold stE;rw [if_neg hc,hx]
   rw [hs] at hd
   exact old hd
  | some x=>
   have hs:stE E s e=(giv s.1 (edI x++edO x),s.2++[e]):=by unfold stE;rw [if_neg hc,hx]
   rw [hs] at hd
   rcases List.mem_append.1 hd with hd | hd
   · exact old hd
   ·
    simp at hd
    subst hd
    rw [not_or] at hc
    obtain ⟨hi,he⟩:=List.getElem?_eq_some_iff.1 hx
    refine ⟨d.toNat,hi,by omega,fun y hy=>?_⟩
    rw [hs]
    rw [he] at hy
    exact giv_mem.2 (.inr hy)
theorem sX {E:List Edg}{s:WS} (h:Clo E s):∀ k,Clo E (wlk E s k)
 | 0=>h
 | k+1=>by
  show Clo E (match (wlk E s k).1[k]? with
   | some w=>stW E (wlk E s k) w
   | none=>wlk E s k)
  split
  · exact B9_ (B9_ (sX h k) _) _
  · exact sX h k
theorem kX {E:List Edg}{s:WS}:∀ k j w,j<k→(wlk E s k).1[j]?=some w→(whr edI E w<0∨whr edI E w∈(wlk E s k).2)∧(whr edO E w<0∨whr edO E w∈(wlk E s k).2)
 | 0,j,w,hj,_=>by omega
 | k+1,j,w,hj,hw=>by
  have e:wlk E s (k+1)=match (wlk E s k).1[k]? with
   | some w=>stW E (wlk E s k) w
   | none=>wlk E s k:=rfl
  cases hx:(wlk E s k).1[k]? with
  | none=>
   rw [hx] at e
   dsimp only at e
   rw [e] at hw ⊢
   have h1:=(List.getElem?_eq_some_iff.1 hw).1
   have h2:=List.getElem?_eq_none_iff.1 hx
   exact kX k j w (by omega) hw
  | some v=>
   rw [hx] at e
   dsimp only at e
   rw [e] at hw ⊢
   obtain ⟨r,hr⟩:=bJ E (wlk E s k) (whr edI E v)
   obtain ⟨r',hr'⟩:=bJ E (stE E (wlk E s k) (whr edI E v)) (whr edO E v)
   obtain ⟨q,hq⟩:=Bl_ E (wlk E s k) (whr edI E v)
   obtain ⟨q',hq'⟩:=Bl_ E (stE E (wlk E s k) (whr edI E v)) (whr edO E v)
   have hkl:=(List.getElem?_eq_some_iff.1 hx).1
   have hw2:(wlk E s k).1[j]?=some w:=by
    unfold stW at hw
    rw [hr',hr,List.append_assoc,List.getElem?_append_left (by omega)] at hw
    exact hw
   by_cases hjk:j<k
   ·
    obtain ⟨h1,h2⟩:=kX k j w hjk hw2
    unfold stW
    rw [hq',hq]
    exact ⟨h1.imp id fun h=>List.mem_append_left _ (List.mem_append_left _ h),h2.imp id fun h=>List.mem_append_left _ (List.mem_append_left _ h)⟩
   ·
    obtain rfl:j=k:=by omega
    obtain rfl:v=w:=Option.some.inj (hx.symm.trans hw2)
    refine ⟨?_,CL_ (qG _ _ _)⟩
    unfold stW
    rw [hq']
    exact (CL_ (qG edI E v)).imp id fun h=>List.mem_append_left _ h
theorem full_of {n:Nat}{g:Gra} (h:Rgd n g) (hi:(g.2.1.map edI).flatten.Nodup) (ho:(g.2.1.map edO).flatten.Nodup) (hne:∀ e∈g.2.1,edI e++edO e≠[]) (hc:Con n g):Full n g:=by
 have hok:=aJ h
 have hle:=hok.o.le
 have hclo:Clo g.2.1 (walk n g):=sX (fun e he=>by cases he) n
 have hpre:∀ k x,x∈(w0S g.2.2.1 g.2.2.2).1→x∈(wlk g.2.1 (w0S g.2.2.1 g.2.2.2) k).1:=by
  intro k x hx
  induction k with
  | zero=>exact hx
  | succ k ih=>
   show x∈(match (wlk g.2.1 (w0S g.2.2.1 g.2.2.2) k).1[k]? with
    | some w=>stW g.2.1 (wlk g.2.1 (w0S g.2.2.1 g.2.2.2) k) w
    | none=>wlk g.2.1 (w0S g.2.2.1 g.2.2.2) k).1
   split
   ·
    rename_i w _
    obtain ⟨r,hr⟩:=bJ g.2.1 (wlk g.2.1 (w0S g.2.2.1 g.2.2.2) k) (whr edI g.2.1 w)
    obtain ⟨r',hr'⟩:=bJ g.2.1 (stE g.2.1 (wlk g.2.1 (w0S g.2.2.1 g.2.2.2) k) (whr edI g.2.1 w)) (whr edO g.2.1 w)
    unfold stW
    rw [hr',hr]
    exact List.mem_append_left _ (List.mem_append_left _ ih)
   · exact ih
 have hedge:∀ i,∀ hil:i<g.2.1.length,(∃ x∈edI g.2.1[i]++edO g.2.1[i],x∈(walk n g).1)→(i:Int)∈(walk n g).2:=by
  rintro i hil ⟨x,hx,hxo⟩
  obtain ⟨j,hj⟩:=List.getElem?_of_mem hxo
  have hjl:=(List.getElem?_eq_some_iff.1 hj).1
  obtain ⟨h1,h2⟩:=kX n j x (by unfold walk at hle hjl;omega) hj
  rcases List.mem_append.1 hx with hx | hx
  ·
   rw [Bh_ hi hil hx] at h1
   exact h1.resolve_left (by omega)
  ·
   rw [Bh_ ho hil hx] at h2
   exact h2.resolve_left (by omega)
 have hw:∀ k:Nat,k<n→(k:Int)∈(walk n g).1:=by
  refine hc (fun x=>x∈(walk n g).1) (fun x hx=>hpre n x ?_) (fun x hx=>hpre n x ?_) (fun e he hx=>?_)
  · exact giv_mem.2 (.inl (giv_mem.2 (.inr hx)))
  · exact giv_mem.2 (.inr hx)
  ·
   obtain ⟨i,hil,rfl⟩:=List.mem_iff_getElem.1 he
   obtain ⟨i',hi',e1,h2⟩:=hclo _ (hedge i hil hx)
   obtain rfl:i=i':=by omega
   exact h2
 refine ⟨hw,fun i hil=>hedge i hil ?_,hne⟩
 have hn:=hne _ (List.getElem_mem hil)
 obtain ⟨x,hx⟩:=List.exists_mem_of_ne_nil _ hn
 have he:=h.e _ (List.getElem_mem hil)
 have hr:=vH he.1 he.2 x hx
 refine ⟨x,hx,?_⟩
 have:=hw x.toNat (by omega)
 rwa [show ((x.toNat:Nat):Int)=x by omega] at this
theorem Ff_ {n:Nat} (hn:n≤1000){g:Gra} (hw:g.1=(n:Int)) (h:Rgd n g) (hf:Full n g){t:Nat→Int} (ht:Ij n t) :
  yP g=some (cnG n g)∧mP (mpG (n:Int) t g)=some (cnG n g):=by
 refine ⟨Gq_ hn hw h hf,?_⟩
 rw [Fe_ hn rfl (ht.rgd h _) (ht.full h _ hf),ht.cnG h]
end Go.Proofs.YtngbmcbigcaapaaGreatDoor
namespace Go.Proofs.YtngbmcbigcaapaaGreatDoor
set_option linter.unusedVariables false
def LsR (P:List (Int×Int)):List Int→List Int→Prop
 | [],[]=>True
 | x::l,y::l'=>(x,y)∈P∧LsR P l l'
 | _,_=>False
def EdR (P:List (Int×Int)) (e e':Edg):Prop:=e.1=e'.1∧e.2.1=e'.2.1∧LsR P (edI e) (edI e')∧LsR P (edO e) (edO e')
def EsR (P:List (Int×Int)):List Edg→List Edg→Prop
 | [],[]=>True
 | e::l,e'::l'=>EdR P e e'∧EsR P l l'
 | _,_=>False
theorem LsR.mono {P Q:List (Int×Int)} (h:∀ p∈P,p∈Q):∀ {l l':List Int},LsR P l l'→LsR Q l l'
 | [],[],_=>trivial
 | x::l,y::l',hl=>⟨h _ hl.1,LsR.mono h hl.2⟩
 | [],_::_,hl=>hl.elim
 | _::_,[],hl=>hl.elim
theorem LsR.app {P:List (Int×Int)}:∀ {l l' m m':List Int},LsR P l l'→LsR P m m'→LsR P (l++m) (l'++m')
 | [],[],_,_,_,hm=>hm
 | x::l,y::l',_,_,hl,hm=>⟨hl.1,LsR.app hl.2 hm⟩
 | [],_::_,_,_,hl,_=>hl.elim
 | _::_,[],_,_,hl,_=>hl.elim
theorem LsR.len {P:List (Int×Int)}:∀ {l l':List Int},LsR P l l'→l.length=l'.length
 | [],[],_=>rfl
 | x::l,y::l',hl=>congrArg (· + 1) hl.2.len
 | [],_::_,hl=>hl.elim
 | _::_,[],hl=>hl.elim
theorem LsR.get {P:List (Int×Int)}:∀ {l l':List Int}{i:Nat},LsR P l l'→i<l.length→∃ x y,l[i]?=some x∧l'[i]?=some y∧(x,y)∈P
 | [],[],_,_,h=>by simp at h
 | x::l,y::l',0,hl,_=>⟨x,y,rfl,rfl,hl.1⟩
 | x::l,y::l',i+1,hl,h=>by
  obtain ⟨x,y,h1,h2,h3⟩:=hl.2.get (i:=i) (by simpa using h)
  exact ⟨x,y,by simpa using h1,by simpa using h2,h3⟩
 | [],_::_,_,hl,_=>hl.elim
 | _::_,[],_,hl,_=>hl.elim
theorem LsR.take {P:List (Int×Int)}:∀ {l l':List Int} (i:Nat),LsR P l l'→LsR P (l.take i) (l'.take i)
 | [],[],i,_=>by simp [LsR]
 | x::l,y::l',0,_=>trivial
 | x::l,y::l',i+1,hl=>⟨hl.1,hl.2.take i⟩
 | [],_::_,_,hl=>hl.elim
 | _::_,[],_,hl=>hl.elim
theorem LsR.drop {P:List (Int×Int)}:∀ {l l':List Int} (i:Nat),LsR P l l'→LsR P (l.drop i) (l'.drop i)
 | [],[],i,_=>by simp [LsR]
 | x::l,y::l',0,hl=>hl
 | x::l,y::l',i+1,hl=>hl.2.drop i
 | [],_::_,_,hl=>hl.elim
 | _::_,[],_,hl=>hl.elim
theorem EdR.mono {P Q:List (Int×Int)} (h:∀ p∈P,p∈Q){e e':Edg} (he:EdR P e e'):EdR Q e e':=⟨he.1,he.2.1,he.2.2.1.mono h,he.2.2.2.mono h⟩
theorem EsR.mono {P Q:List (Int×Int)} (h:∀ p∈P,p∈Q):∀ {l l':List Edg},EsR P l l'→EsR Q l l'
 | [],[],_=>trivial
 | x::l,y::l',hl=>⟨hl.1.mono h,EsR.mono h hl.2⟩
 | [],_::_,hl=>hl.elim
 | _::_,[],hl=>hl.elim
theorem EsR.snoc {P:List (Int×Int)}{e e':Edg} (he:EdR P e e'):∀ {l l':List Edg},EsR P l l'→EsR P (l++[e]) (l'++[e'])
 | [],[],_=>⟨he,trivial⟩
 | x::l,y::l',hl=>⟨hl.1,EsR.snoc he hl.2⟩
 | [],_::_,hl=>hl.elim
 | _::_,[],hl=>hl.elim
theorem EsR.len {P:List (Int×Int)}:∀ {l l':List Edg},EsR P l l'→l.length=l'.length
 | [],[],_=>rfl
 | x::l,y::l',hl=>congrArg (· + 1) hl.2.len
 | [],_::_,hl=>hl.elim
 | _::_,[],hl=>hl.elim
def inN (n:Nat) (x:Int):Nat:=if 0≤x∧x<(n:Int) then 1 else 0
theorem inN_succ (n:Nat) (x:Int):inN (n+1) x=inN n x+(if x=(n:Int) then 1 else 0):=by
 unfold inN
 by_cases h:x=(n:Int)
 · rw [if_pos h,if_pos (by omega),if_neg (by omega)]
 ·
  rw [if_neg h]
  by_cases h2:0≤x∧x<(n:Int)
  · rw [if_pos h2,if_pos (by omega)]
  · rw [if_neg h2,if_neg (by omega)]
def csE (s:Edg→List Int) (E:List Edg) (x:Int):Nat:=((E.map s).flatten).count x
theorem csE_snoc (s:Edg→List Int) (E:List Edg) (e:Edg) (x:Int):csE s (E++[e]) x=csE s E x+(s e).count x:=by
 unfold csE
 simp only [List.map_append,List.flatten_append,List.map_cons,List.map_nil,List.flatten_cons,List.flatten_nil,List.append_nil,List.count_append]
theorem cnt1 (x y:Int):List.count x [y]=if x=y then 1 else 0:=by
 rw [List.count_singleton]
 by_cases h:x=y
 · simp [h]
 ·
  have:¬y=x:=fun e=>h e.symm
  simp [h,this]
theorem cntC (x y:Int) (l:List Int):List.count x (y::l)=l.count x+if x=y then 1 else 0:=by
 rw [List.count_cons]
 by_cases h:x=y
 · simp [h]
 ·
  have:¬y=x:=fun e=>h e.symm
  simp [h,this]
def ClE (E:List Edg) (S:Int→Prop):Prop:=∀ e∈E,(∃ x∈edI e++edO e,S x)→∀ x∈edI e++edO e,S x
structure Dw (P:List (Int×Int)) (U V D:List Int) (n:Nat) (I:List Int) (E:List Edg) (n':Nat) (E':List Edg) (B:Nat):Prop where
 pa:∀ x,(P.map (·.1)).count x+U.count x=inN n x
 pb:∀ x,(P.map (·.2)).count x+V.count x=inN n' x
 ed:EsR P E E'
 og:∀ x,I.count x+csE edO E x=inN n x
 en:∀ x,csE edI E x+D.count x=inN n x
 co:∀ S:Int→Prop,(∀ x∈I,S x)→(∀ x∈D,S x)→ClE E S→∀ x:Int,0≤x→x<(n:Int)→S x
 b1:n≤B
 b2:n'≤B
 b3:E.length≤B
section
variable {P:List (Int×Int)}{U V D:List Int}{n n' B:Nat}{I:List Int}{E E':List Edg}
theorem Dw.cnt (h:Dw P U V D n I E n' E' B){V1 D1:List Int}{B1:Nat} (hV:∀ x,V.count x=V1.count x) (hD:∀ x,D.count x=D1.count x) (hB:B≤B1):Dw P U V1 D1 n I E n' E' B1:=
 ⟨h.pa,fun x=>by rw [←hV];exact h.pb x,h.ed,h.og,fun x=>by rw [←hD];exact h.en x,fun S h1 h2 h3=>h.co S h1 (fun x hx=>h2 x (by
  have h4:=List.count_pos_iff.2 hx
  rw [hD] at h4
  exact List.count_pos_iff.1 h4)) h3,Nat.le_trans h.b1 hB,Nat.le_trans h.b2 hB,Nat.le_trans h.b3 hB⟩
theorem Dw.setB (h:Dw P U V D n I E n' E' B){B1:Nat} (h1:n≤B1) (h2:n'≤B1) (h3:E.length≤B1):Dw P U V D n I E n' E' B1:=⟨h.pa,h.pb,h.ed,h.og,h.en,h.co,h1,h2,h3⟩
theorem Dw.perm (h:Dw P U V D n I E n' E' B){D1:List Int} (hD:∀ x,D.count x=D1.count x):Dw P U V D1 n I E n' E' B:=h.cnt (fun _=>rfl) hD (Nat.le_refl _)
theorem Dw.up (h:Dw P U V D n I E n' E' B){B1:Nat} (hB:B≤B1):Dw P U V D n I E n' E' B1:=h.cnt (fun _=>rfl) (fun _=>rfl) hB
theorem Dw.wireI (h:Dw P U V D n I E n' E' B):Dw P U ((n':Int)::V) D n I E (n'+1) E' (B+1):=
 ⟨h.pa,fun x=>by rw [inN_succ,cntC,← h.pb x];omega,h.ed,h.og,h.en,h.co,by have:=h.b1;omega,by have:=h.b2;omega,by have:=h.b3;omega⟩
theorem Dw.wireS (h:Dw P U V D n I E n' E' B):Dw P ((n:Int)::U) V ((n:Int)::D) (n+1) (I++[(n:Int)]) E n' E' (B+1):=
 ⟨fun x=>by rw [inN_succ,cntC,← h.pa x];omega,h.pb,h.ed,fun x=>by rw [inN_succ,List.count_append,cnt1,← h.og x];omega,fun x=>by rw [inN_succ,cntC,← h.en x];omega,fun S h1 h2 h3 x hx0 hx1=>by
  by_cases hx:x=(n:Int)
  · rw [hx];exact h2 _ (.head _)
  · exact h.co S (fun y hy=>h1 y (List.mem_append_left _ hy)) (fun y hy=>h2 y (.tail _ hy)) h3 x hx0 (by omega),by have:=h.b1;omega,by have:=h.b2;omega,by have:=h.b3;omega⟩
theorem Dw.pair {x y:Int} (h:Dw P (x::U) (y::V) D n I E n' E' B):Dw (P++[(x,y)]) U V D n I E n' E' B:=
 ⟨fun z=>by
  have:=h.pa z
  rw [cntC] at this
  rw [List.map_append,List.count_append,← this]
  show _+List.count z [x]+_=_
  rw [cnt1];omega,fun z=>by
  have:=h.pb z
  rw [cntC] at this
  rw [List.map_append,List.count_append,← this]
  show _+List.count z [y]+_=_
  rw [cnt1];omega,h.ed.mono (fun p hp=>List.mem_append_left _ hp),h.og,h.en,h.co,h.b1,h.b2,h.b3⟩
theorem ClE.left {e:Edg}{S:Int→Prop} (h:ClE (E++[e]) S):ClE E S:=fun d hd=>h d (List.mem_append_left _ hd)
theorem Dw.edge1 {y:Int}{ins ins':List Int} (k v:Int) (h:Dw P U (y::V) (ins++D) n I E n' E' B) (hi:LsR P ins ins') :
  Dw (P++[((n:Int),y)]) U V ((n:Int)::D) (n+1) I (E++[(k,v,ins,[(n:Int)])]) n' (E'++[(k,v,ins',[y])]) (B+1):=by
 have hsub:∀ p∈P,p∈P++[((n:Int),y)]:=fun p hp=>List.mem_append_left _ hp
 refine ⟨fun z=>?_,fun z=>?_,EsR.snoc (e:=(k,v,ins,[(n:Int)])) (e':=(k,v,ins',[y])) ⟨rfl,rfl,hi.mono hsub,(⟨by simp,trivial⟩:LsR _ [(n:Int)] [y])⟩ (h.ed.mono hsub),fun z=>?_,fun z=>?_,fun S h1 h2 h3 x hx0 hx1=>?_,?_,?_,?_⟩
 ·
  rw [inN_succ,List.map_append,List.count_append,← h.pa z]
  show _+List.count z [(n:Int)]+_=_
  rw [cnt1];omega
 ·
  have:=h.pb z
  rw [cntC] at this
  rw [List.map_append,List.count_append,← this]
  show _+List.count z [y]+_=_
  rw [cnt1];omega
 ·
  rw [inN_succ,csE_snoc,← h.og z]
  show _+(_+List.count z [(n:Int)])=_
  rw [cnt1];omega
 ·
  have:=h.en z
  rw [List.count_append] at this
  rw [inN_succ,csE_snoc,cntC,← this]
  show _+List.count z ins+_=_
  omega
 ·
  have hn:S (n:Int):=h2 _ (.head _)
  have hall:=h3 _ (List.mem_append_right _ (.head _)) ⟨(n:Int),List.mem_append_right _ (.head _),hn⟩
  by_cases hx:x=(n:Int)
  · rw [hx];exact hn
  ·
   refine h.co S h1 (fun y hy=>?_) h3.left x hx0 (by omega)
   rcases List.mem_append.1 hy with hy | hy
   · exact hall y (List.mem_append_left _ hy)
   · exact h2 y (.tail _ hy)
 · have:=h.b1;omega
 · have:=h.b2;omega
 · have:=h.b3;simp;omega
theorem Dw.edge2 {y z:Int}{ins ins':List Int} (k v:Int) (h:Dw P U (y::z::V) (ins++D) n I E n' E' B) (hi:LsR P ins ins') :
  Dw (P++[((n:Int),y),((n:Int)+1,z)]) U V ((n:Int)::((n:Int)+1)::D) (n+2) I (E++[(k,v,ins,[(n:Int),(n:Int)+1])]) n' (E'++[(k,v,ins',[y,z])]) (B+2):=by
 have hsub:∀ p∈P,p∈P++[((n:Int),y),((n:Int)+1,z)]:=fun p hp=>List.mem_append_left _ hp
 have ho:∀ x,inN (n+2) x=inN n x+(if x=(n:Int) then 1 else 0)+(if x=(n:Int)+1 then 1 else 0):=fun x=>by
  rw [show n+2=(n+1)+1 from rfl,inN_succ,inN_succ,show ((n+1:Nat):Int)=(n:Int)+1 by omega]
 refine ⟨fun u=>?_,fun u=>?_,EsR.snoc (e:=(k,v,ins,[(n:Int),(n:Int)+1])) (e':=(k,v,ins',[y,z])) ⟨rfl,rfl,hi.mono hsub,(⟨by simp,by simp,trivial⟩:LsR _ [(n:Int),(n:Int)+1] [y,z])⟩ (h.ed.mono hsub),fun u=>?_,fun u=>?_,fun S h1 h2 h3 x hx0 hx1=>?_,?_,?_,?_⟩
 ·
  rw [ho,List.map_append,List.count_append,← h.pa u]
  show _+List.count u [(n:Int),(n:Int)+1]+_=_
  rw [cntC,cnt1];omega
 ·
  have:=h.pb u
  rw [cntC,cntC] at this
  rw [List.map_append,List.count_append,← this]
  show _+List.count u [y,z]+_=_
  rw [cntC,cnt1];omega
 ·
  rw [ho,csE_snoc,← h.og u]
  show _+(_+List.count u [(n:Int),(n:Int)+1])=_
  rw [cntC,cnt1];omega
 ·
  have:=h.en u
  rw [List.count_append] at this
  rw [ho,csE_snoc,cntC,cntC,← this]
  show _+List.count u ins+_=_
  omega
 ·
  have hn:S (n:Int):=h2 _ (.head _)
  have hall:=h3 _ (List.mem_append_right _ (.head _)) ⟨(n:Int),List.mem_append_right _ (.head _),hn⟩
  by_cases hx:x=(n:Int)
  · rw [hx];exact hn
  ·
   by_cases hx':x=(n:Int)+1
   · rw [hx'];exact h2 _ (.tail _ (.head _))
   ·
    refine h.co S h1 (fun y hy=>?_) h3.left x hx0 (by omega)
    rcases List.mem_append.1 hy with hy | hy
    · exact hall y (List.mem_append_left _ hy)
    · exact h2 y (.tail _ (.tail _ hy))
 · have:=h.b1;omega
 · have:=h.b2;omega
 · have:=h.b3;simp;omega
theorem Dw.edge0 {w w':Int} (k v:Int) (h:Dw P U V (w::D) n I E n' E' B) (hw:(w,w')∈P) (hc:∀ S:Int→Prop,(∀ x∈I,S x)→ClE E S→S w) :
  Dw P U V D n I (E++[(k,v,[w],[])]) n' (E'++[(k,v,[w'],[])]) (B+1):=by
 refine ⟨h.pa,h.pb,EsR.snoc (e:=(k,v,[w],[])) (e':=(k,v,[w'],[])) ⟨rfl,rfl,(⟨hw,trivial⟩:LsR P [w] [w']),trivial⟩ h.ed,fun z=>?_,fun z=>?_,fun S h1 h2 h3 x hx0 hx1=>?_,?_,?_,?_⟩
 ·
  rw [csE_snoc,← h.og z]
  rfl
 ·
  have:=h.en z
  rw [cntC] at this
  rw [csE_snoc,← this]
  show _+List.count z [w]+_=_
  rw [cnt1];omega
 ·
  refine h.co S h1 (fun y hy=>?_) h3.left x hx0 hx1
  rcases List.mem_cons.1 hy with rfl | hy
  · exact hc S h1 h3.left
  · exact h2 y hy
 · have:=h.b1;omega
 · have:=h.b2;omega
 · have:=h.b3;simp;omega
theorem inN_le (n:Nat) (x:Int):inN n x≤1:=by unfold inN;split <;> omega
theorem inN_pos {n:Nat}{x:Int} (h:0<inN n x):0≤x∧x<(n:Int):=by
 unfold inN at h
 split at h
 · assumption
 · omega
theorem od_of {n:Nat}{l:List Int} (h:∀ x,l.count x≤inN n x):Od n l:=
 ⟨fun x hx=>inN_pos (Nat.lt_of_lt_of_le (List.count_pos_iff.2 hx) (h x)),List.nodup_iff_count.2 fun x=>Nat.le_trans (h x) (inN_le n x)⟩
theorem Dw.len (h:Dw P U V D n I E n' E' B):D.length≤n:=(od_of fun x=>by have:=h.en x;omega).le
end
theorem dJ {n:Nat}{E:List Edg}{I O:List Int} (hn:n≤1000000):xE ((n:Int),E,I,O)=some ((((n+1:Nat):Int),E,I,O),(n:Int)):=by
 refine bnd (bC (by dsimp only;omega) (by dsimp only;omega)) (bnd (gE (by dsimp only;omega) (by dsimp only;omega)) ?_)
 dsimp only
 rw [show (n:Int)+1-1=(n:Int) by omega,show ((n+1:Nat):Int)=(n:Int)+1 by omega]
theorem yL {n:Nat}{E:List Edg}{I O:List Int} (hn:n≤1000000):dG ((n:Int),E,I,O)=some ((((n+1:Nat):Int),E,I,O),(n:Int)):=by
 refine bnd (bC (by dsimp only;omega) (by dsimp only;omega)) (bnd (gE (by dsimp only;omega) (by dsimp only;omega)) ?_)
 dsimp only
 rw [show (n:Int)+1-1=(n:Int) by omega,show ((n+1:Nat):Int)=(n:Int)+1 by omega]
theorem gJ {n:Int}{E:List Edg}{I O:List Int} (hE:E.length≤1000000) (k v:Int) (a b:List Int):rE (n,E,I,O) k v a b=some (n,E++[(k,v,a,b)],I,O):=by
 have hm:aB=1099511627776:=rfl
 exact bnd (yB (by simp;omega)) rfl
theorem iJ {n:Int}{E:List Edg}{I O:List Int} (hE:E.length≤1000000) (k v:Int) (a b:List Int):qE (n,E,I,O) k v a b=some (n,E++[(k,v,a,b)],I,O):=by
 have hm:aB=1099511627776:=rfl
 exact bnd (yB (by simp;omega)) rfl
theorem B0_ {n:Nat}{E:List Edg}{I O:List Int} (k:Nat) (hn:n+k≤1000000):sM ((n:Int),E,I,O) (k:Int)=some ((((n+k:Nat):Int),E,I,O),(List.range k).map fun i=>((n+i:Nat):Int)):=by
 have hm:aB=1099511627776:=rfl
 refine bnd (rK (by unfold inI;omega)) ?_
 rw [Int.toNat_natCast]
 refine bnd (kC (n:=k) (fun j=>(((n+j:Nat):Int),(List.range j).map fun i=>((n+i:Nat):Int))) (fun j hj=>?_)) rfl
 refine bnd (yL (by omega)) (bnd (yB (by simp;omega)) ?_)
 rw [List.range_succ,List.map_append]
 rfl
theorem Ct_ (I2 O2 I3 O3:List Int):∀ (k fuel:Nat),1≤k→k<fuel→∀ {P:List (Int×Int)}{U V D:List Int}{n n' B:Nat}{I:List Int}{E E':List Edg}{w w':Int},Dw P U V (w::D) n I E n' E' B→(w,w')∈P→B+2*k≤1000000 →
  ∃ P' n1 E1 n1' E1' r r',wK fuel ((n:Int),E,I2,O2) w (k:Int)=some ((((n1:Nat):Int),E1,I2,O2),r)∧uK fuel ((n':Int),E',I3,O3) w' (k:Int)=some ((((n1':Nat):Int),E1',I3,O3),r') ∧
   (∀ p∈P,p∈P')∧LsR P' r r'∧r.length=k∧Dw P' U V (r++D) n1 I E1 n1' E1' (B+2*k)
 | 0,_,h1,_,_,_,_,_,_,_,_,_,_,_,_,_,_,_,_=>by omega
 | 1,fuel+1,_,_,P,U,V,D,n,n',B,I,E,E',w,w',h,hw,hB=>by
  refine ⟨P,n,E,n',E',[w],[w'],?_,?_,fun p hp=>hp,⟨hw,trivial⟩,rfl,h.up (by omega)⟩
  · exact stp (cFW rfl (stp (cTW rfl rfl)))
  · exact stp (cFW rfl (stp (cTW rfl rfl)))
 | k+2,fuel+1,_,hf,P,U,V,D,n,n',B,I,E,E',w,w',h,hw,hB=>by
  have hm:aB=1099511627776:=rfl
  have b1:=h.b1;have b2:=h.b2;have b3:=h.b3
  have hl:=h.ed.len
  have h2:=((h.wireI.wireI).cnt (V1:=(n':Int)::((n':Int)+1)::V) (D1:=[w]++D) (fun x=>by
   rw [cntC,cntC,cntC,cntC,show ((n'+1:Nat):Int)=(n':Int)+1 by omega];omega) (fun _=>rfl) (Nat.le_refl _)).edge2 3 0 (ins':=[w']) ⟨hw,trivial⟩
  have h3:=h2.perm (D1:=((n:Int)+1)::((n:Int)::D)) (fun x=>by rw [cntC,cntC,cntC,cntC];omega)
  obtain ⟨P',n1,E1,n1',E1',r,r',k1,k2,k3,k4,k5,k6⟩:=Ct_ I2 O2 I3 O3 (k+1) fuel (by omega) (by omega) (h3.setB (B1:=B+2) (by omega) (by omega) (by simp;omega)) (w':=(n':Int)+1) (List.mem_append_right _ (by simp)) (by omega)
  have hk:((k+2:Nat):Int)-1=((k+1:Nat):Int):=by omega
  refine ⟨P',n1,E1,n1',E1',(n:Int)::r,(n':Int)::r',?_,?_,fun p hp=>k3 p (List.mem_append_left _ hp),⟨k3 _ (List.mem_append_right _ (by simp)),k4⟩,by simp [k5],(k6.perm (fun x=>by
   simp only [List.count_append,List.cons_append,cntC];omega)).up (by omega)⟩
  ·
   refine stp (cFW (dF (by omega)) (stp (cFW (dF (by omega)) ?_)))
   refine bnd (dJ (by omega)) (bnd (dJ (by omega)) (bnd (gJ (by dsimp only;omega) _ _ _ _) (bnd (gE (by omega) (by omega)) ?_)))
   rw [hk]
   dsimp only
   rw [show ((n+1:Nat):Int)=(n:Int)+1 by omega]
   refine bnd (show wK fuel (((n+1+1:Nat):Int),E++[(3,0,[w],[(n:Int),(n:Int)+1])],I2,O2) ((n:Int)+1) ((k+1:Nat):Int)=_ from k1) (bnd (yB (by simp;omega)) rfl)
  ·
   refine stp (cFW (dF (by omega)) (stp (cFW (dF (by omega)) ?_)))
   refine bnd (B0_ 2 (by omega)) (bnd (iJ (by dsimp only;omega) _ _ _ _) (bnd (a:=(((n1':Nat):Int),E1',(n':Int)::r')) (bnd (gE (by omega) (by omega)) ?_) rfl))
   rw [hk]
   dsimp only
   refine bnd (a:=(n':Int)) rfl (bnd (a:=(n':Int)+1) rfl ?_)
   refine bnd (show uK fuel (((n'+1+1:Nat):Int),E'++[(3,0,[w'],[(n':Int),(n':Int)+1])],I3,O3) ((n':Int)+1) ((k+1:Nat):Int)=_ from k2) (bnd (yB (by have:=k4.len;simp;omega)) rfl)
theorem B7_ (I2 O2 I3 O3:List Int):∀ (k fuel:Nat),k<fuel→∀ {P:List (Int×Int)}{U V D:List Int}{n n' B:Nat}{I:List Int}{E E':List Edg}{l l':List Int},l.length=k→Dw P U V (l++D) n I E n' E' B→LsR P l l'→B+2*k+2≤1000000 →
  ∃ P' n1 E1 n1' E1' r r',rP fuel ((n:Int),E,I2,O2) l=some ((((n1:Nat):Int),E1,I2,O2),r)∧pP fuel ((n':Int),E',I3,O3) l'=some ((((n1':Nat):Int),E1',I3,O3),r') ∧
   (∀ p∈P,p∈P')∧(r,r')∈P'∧Dw P' U V (r::D) n1 I E1 n1' E1' (B+2*k+2)
 | 0,fuel+1,_,P,U,V,D,n,n',B,I,E,E',l,l',hl,h,hr,hB=>by
  obtain rfl:l=[]:=List.length_eq_zero_iff.1 hl
  obtain rfl:l'=[]:=List.length_eq_zero_iff.1 (hr.len.symm.trans hl)
  have b1:=h.b1;have b2:=h.b2;have b3:=h.b3
  have hle:=h.ed.len
  have h1:=h.wireI.edge1 (ins:=[]) (ins':=[]) 6 0 trivial
  refine ⟨_,_,_,_,_,(n:Int),(n':Int),?_,?_,fun p hp=>List.mem_append_left _ hp,by simp,h1.up (by omega)⟩
  · exact stp (cFW rfl (stp (cTW rfl (bnd (dJ (by omega)) (bnd (gJ (by dsimp only;omega) _ _ _ _) rfl)))))
  · exact bnd (a:=-1) rfl (stp (cFW rfl (bnd (yL (by omega)) (stp (cTW rfl (bnd (iJ (by dsimp only;omega) _ _ _ _) rfl))))))
 | 1,fuel+1,_,P,U,V,D,n,n',B,I,E,E',l,l',hl,h,hr,hB=>by
  match l,l',hl,hr with
  | [x],[y],_,hr=>
   refine ⟨P,n,E,n',E',x,y,?_,?_,fun p hp=>hp,hr.1,h.up (by omega)⟩
   · exact stp (cTW rfl (bnd (a:=x) rfl rfl))
   · exact bnd (a:=0) rfl (stp (cTW rfl (bnd (a:=y) rfl rfl)))
 | k+2,fuel+1,hf,P,U,V,D,n,n',B,I,E,E',l,l',hl,h,hr,hB=>by
  have hm:aB=1099511627776:=rfl
  have b1:=h.b1;have b2:=h.b2;have b3:=h.b3
  have hle:=h.ed.len
  have hl':l'.length=k+2:=hr.len.symm.trans hl
  obtain ⟨x,y,hx,hy,hxy⟩:=hr.get (i:=k+1) (by omega)
  have hsp:l=l.take (k+1)++[x]:=by
   obtain ⟨h1,h2⟩:=List.getElem?_eq_some_iff.1 hx
   rw [←h2,← List.take_succ_eq_append_getElem h1]
   exact (List.take_of_length_le (by omega)).symm
  have h1:=h.wireI.perm (D1:=l.take (k+1)++(x::D)) (fun u=>by
   conv=>lhs;rw [hsp]
   rw [List.append_assoc];rfl)
  obtain ⟨P',n1,E1,n1',E1',r,r',k1,k2,k3,k4,k5⟩:=B7_ I2 O2 I3 O3 (k+1) fuel (by omega) (by rw [List.length_take];omega) h1 (hr.take (k+1)) (by omega)
  have c1:=k5.b1;have c2:=k5.b2;have c3:=k5.b3
  have cl:=k5.ed.len
  have h2:=Dw.edge1 (ins:=[r,x]) (ins':=[r',y]) 5 0 k5 ⟨k4,k3 _ hxy,trivial⟩
  have hk:((l.length:Nat):Int)-1=((k+1:Nat):Int):=by omega
  have hk':((l'.length:Nat):Int)-1=((k+1:Nat):Int):=by omega
  have hs:gC l 0 ((k+1:Nat):Int)=some (l.take (k+1)):=by
   unfold gC
   rw [if_pos (by omega)];rfl
  have hs':gC l' 0 ((k+1:Nat):Int)=some (l'.take (k+1)):=by
   unfold gC
   rw [if_pos (by omega)];rfl
  refine ⟨_,_,_,_,_,(n1:Int),(n':Int),?_,?_,fun p hp=>List.mem_append_left _ (k3 p hp),by simp,h2.up (by omega)⟩
  ·
   refine stp (cFW (dF (by omega)) (stp (cFW (dF (by omega)) (bnd (gE (by omega) (by omega)) ?_))))
   rw [hk]
   exact bnd hs (bnd k1 (bnd (dJ (by omega)) (bnd (pA hx) (bnd (gJ (by dsimp only;omega) _ _ _ _) rfl))))
  ·
   refine bnd (gE (by omega) (by omega)) ?_
   rw [hk']
   refine stp (cFW (dF (by omega)) (bnd (yL (by omega)) (stp (cFW (dF (by omega)) (bnd (a:=(((n1':Nat):Int),E1'++[(5,0,[r',y],[(n':Int)])])) ?_ rfl)))))
   exact bnd hs' (bnd k2 (bnd (pA hy) (bnd (iJ (by dsimp only;omega) _ _ _ _) rfl)))
end Go.Proofs.YtngbmcbigcaapaaGreatDoor
namespace Go.Proofs.YtngbmcbigcaapaaGreatDoor
set_option linter.unusedVariables false
def lkp:List (Int×Int)→Int→Int
 | [],_=>0
 | p::l,x=>if p.1=x then p.2 else lkp l x
theorem dM:∀ {P:List (Int×Int)}{x y:Int},(P.map (·.1)).Nodup→(x,y)∈P→lkp P x=y
 | p::l,x,y,hn,h=>by
  obtain ⟨h1,h2⟩:=List.nodup_cons.1 hn
  unfold lkp
  rcases List.mem_cons.1 h with rfl | h
  · exact if_pos rfl
  ·
   rw [if_neg (fun e=>h1 (by show p.1∈_;rw [e];exact List.mem_map.2 ⟨(x,y),h,rfl⟩))]
   exact dM h2 h
theorem nS {n:Nat}{l:List Int} (h:∀ x,l.count x=inN n x):Od n l∧l.length=n∧∀ k:Nat,k<n→(k:Int)∈l:=by
 have ho:Od n l:=od_of fun x=>by rw [h];exact Nat.le_refl _
 have hc:∀ k:Nat,k<n→(k:Int)∈l:=fun k hk=>List.count_pos_iff.1 (by rw [h];unfold inN;rw [if_pos (by omega)];omega)
 refine ⟨ho,?_,hc⟩
 rw [←yQ ho.r ho.d]
 exact seenN_full.2 hc
theorem Bn_:∀ {P:List (Int×Int)}{x x' y:Int},(P.map (·.2)).Nodup→(x,y)∈P→(x',y)∈P→x=x'
 | p::l,x,x',y,hn,h,h'=>by
  obtain ⟨h1,h2⟩:=List.nodup_cons.1 hn
  rcases List.mem_cons.1 h with e | hq
  ·
   rcases List.mem_cons.1 h' with e' | hq'
   · exact congrArg Prod.fst (e.trans e'.symm)
   · exact (h1 (List.mem_map.2 ⟨(x',y),hq',by rw [←e]⟩)).elim
  ·
   rcases List.mem_cons.1 h' with e' | hq'
   · exact (h1 (List.mem_map.2 ⟨(x,y),hq,by rw [←e']⟩)).elim
   · exact Bn_ h2 hq hq'
theorem Dw.same {P:List (Int×Int)}{D:List Int}{n n' B:Nat}{I:List Int}{E E':List Edg} (h:Dw P [] [] D n I E n' E' B) :
  n'=n∧∃ t,Ij n t∧(∀ y:Nat,y<n→∃ k:Nat,k<n∧t k=(y:Int))∧(∀ l l',LsR P l l'→l'=mp t l)∧E'=E.map (mpE t):=by
 obtain ⟨a1,a2,a3⟩:=nS (n:=n) (l:=P.map (·.1)) (fun x=>by have:=h.pa x;simpa using this)
 obtain ⟨b1,b2,b3⟩:=nS (n:=n') (l:=P.map (·.2)) (fun x=>by have:=h.pb x;simpa using this)
 rw [List.length_map] at a2 b2
 have hnn:n'=n:=b2.symm.trans a2
 subst hnn
 have hex:∀ k:Nat,k<n'→∃ y,((k:Int),y)∈P:=fun k hk=>by
  obtain ⟨p,hp,e⟩:=List.mem_map.1 (a3 k hk)
  exact ⟨p.2,by rw [←e];exact hp⟩
 have hls:∀ l l',LsR P l l'→l'=mp (fun k:Nat=>lkp P (k:Int)) l:=by
  intro l
  induction l with
  | nil=>
   intro l' hl
   cases l' with
   | nil=>rfl
   | cons y l'=>exact hl.elim
  | cons x l ih=>
   intro l' hl
   cases l' with
   | nil=>exact hl.elim
   | cons y l'=>
    have hx:=a1.r x (List.mem_map.2 ⟨(x,y),hl.1,rfl⟩)
    show y::l'=lkp P ((x.toNat:Nat):Int)::mp (fun k:Nat=>lkp P (k:Int)) l
    rw [show ((x.toNat:Nat):Int)=x by omega,dM a1.d hl.1,← ih l' hl.2]
 refine ⟨rfl,fun k:Nat=>lkp P (k:Int),⟨fun k hk=>?_,fun j k hj hk e=>?_⟩,fun y hy=>?_,hls,?_⟩
 ·
  obtain ⟨y,hy⟩:=hex k hk
  rw [dM a1.d hy]
  exact b1.r y (List.mem_map.2 ⟨_,hy,rfl⟩)
 ·
  obtain ⟨y,hy⟩:=hex j hj
  obtain ⟨z,hz⟩:=hex k hk
  rw [dM a1.d hy,dM a1.d hz] at e
  subst e
  have:=Bn_ b1.d hy hz
  omega
 ·
  obtain ⟨p,hp,e⟩:=List.mem_map.1 (b3 y hy)
  have hx:=a1.r p.1 (List.mem_map.2 ⟨p,hp,rfl⟩)
  refine ⟨p.1.toNat,by omega,?_⟩
  show lkp P ((p.1.toNat:Nat):Int)=_
  rw [show ((p.1.toNat:Nat):Int)=p.1 by omega,← e]
  exact dM a1.d hp
 ·
  have key:∀ E E':List Edg,EsR P E E'→E'=E.map (mpE fun k:Nat=>lkp P (k:Int)):=by
   intro E
   induction E with
   | nil=>
    intro E' hE
    cases E' with
    | nil=>rfl
    | cons e E'=>exact hE.elim
   | cons e E ih=>
    intro E' hE
    cases E' with
    | nil=>exact hE.elim
    | cons e' E'=>
     obtain ⟨⟨h1,h2,h3,h4⟩,h5⟩:=hE
     rw [List.map_cons,← ih E' h5]
     congr 1
     exact Prod.ext h1.symm (Prod.ext h2.symm (Prod.ext (hls _ _ h3) (hls _ _ h4)))
  exact key _ _ h.ed
theorem Ij.od {n:Nat}{t:Nat→Int} (h:Ij n t):∀ {l:List Int},Od n l→Od n (mp t l)
 | [],_=>eJ n
 | x::l,ho=>by
  obtain ⟨d1,d2⟩:=List.nodup_cons.1 ho.d
  have hl:fC n l:=fun y hy=>ho.r y (.tail _ hy)
  have ih:=Ij.od h (l:=l) ⟨hl,d2⟩
  have hx:=ho.r x (.head _)
  refine ⟨h.rg ho.r,List.nodup_cons.2 ⟨fun hm=>d1 ?_,ih.d⟩⟩
  have:=(h.mem hl (k:=x.toNat) (by omega)).1 hm
  rwa [show ((x.toNat:Nat):Int)=x by omega] at this
theorem Cp_ {n:Nat}{g:Gra} (hw:g.1=(n:Int)) (hI:fC n g.2.2.1) (hO:fC n g.2.2.2) (hE:nE n g.2.1) (hc:∀ k:Nat,k<n→(k:Int)∈sD g) :
  gOk g=(rng (n:Int) 0 100&&(decide (g.2.1.length≤60)&&(decide (g.2.2.1.length≤12)&&(decide (g.2.2.2.length≤12)&&g.2.1.all arB)))):=by
 unfold gOk
 have h1:(g.2.1.all (edW g.1))=g.2.1.all arB:=by
  rw [hw]
  rw [Bool.eq_iff_iff,List.all_eq_true,List.all_eq_true]
  refine forall_congr' fun e=>forall_congr' fun he=>?_
  unfold edW
  rw [zL (hE e he).1,zL (hE e he).2]
  simp
 have h2:((List.range g.1.toNat).all fun k:Nat=>decide ((k:Int)∈sD g))=true:=by
  rw [hw,Int.toNat_natCast]
  exact List.all_eq_true.2 fun k hk=>decide_eq_true (hc k (List.mem_range.1 hk))
 rw [h1,h2,hw,zL hI,zL hO]
 simp
theorem arB_mp (t:Nat→Int) (e:Edg):arB (mpE t e)=arB e:=by
 unfold arB
 show (wD e.1 e.2.1&&(decide (((mp t (edI e)).length:Int)=_)&&decide (((mp t (edO e)).length:Int)=_)))=_
 rw [mp_len,mp_len];rfl
theorem org_mp (w:Int) (t:Nat→Int) (g:Gra):oG (mpG w t g)=mp t (oG g):=by
 have key:∀ E:List Edg,((E.map (mpE t)).map edO).flatten=mp t (E.map edO).flatten:=by
  intro E
  induction E with
  | nil=>rfl
  | cons e E ih=>
   rw [List.map_cons,List.map_cons,List.flatten_cons,ih,List.map_cons,List.flatten_cons]
   exact List.map_append.symm
 show mp t g.2.2.1++((g.2.1.map (mpE t)).map edO).flatten=mp t (g.2.2.1++_)
 rw [key]
 exact List.map_append.symm
theorem end_mp (w:Int) (t:Nat→Int) (g:Gra):ends (mpG w t g)=mp t (ends g):=by
 have key:∀ E:List Edg,((E.map (mpE t)).map edI).flatten=mp t (E.map edI).flatten:=by
  intro E
  induction E with
  | nil=>rfl
  | cons e E ih=>
   rw [List.map_cons,List.map_cons,List.flatten_cons,ih,List.map_cons,List.flatten_cons]
   exact List.map_append.symm
 show mp t g.2.2.2++((g.2.1.map (mpE t)).map edI).flatten=mp t (g.2.2.2++_)
 rw [key]
 exact List.map_append.symm
theorem arB_ne {e:Edg} (h:arB e=true):edI e++edO e≠[]:=by
 intro he
 obtain ⟨h1,h2⟩:=List.append_eq_nil_iff.1 he
 unfold arB at h
 simp only [Bool.and_eq_true,decide_eq_true_eq] at h
 obtain ⟨hg,h3,h4⟩:=h
 have e1:e.2.2.1=[]:=h1
 have e2:e.2.2.2=[]:=h2
 rw [e1] at h3
 rw [e2] at h4
 unfold wD at hg
 simp only [Bool.and_eq_true] at hg
 have hr:=rng_true.1 hg.1
 have:e.1=3∨e.1=4∨e.1=5∨e.1=6∨e.1=7∨e.1=8∨e.1=9∨e.1=10∨e.1=11∨e.1=12∨e.1=13∨e.1=14:=by omega
 rcases this with h | h | h | h | h | h | h | h | h | h | h | h <;> rw [h] at h3 h4 <;> revert h3 h4 <;> decide
theorem FW_ {n:Nat}{g:Gra} (h:GOk g n):nGraph (cnG n g)≤1048576:=by
 have h60:=h.e60;have h12:=h.i12;have h13:=h.o12
 have key:∀ (wp ep:Nat→Int),∀ e∈setsL g.2.1.length ep (g.2.1.map (mpE wp)) g.2.1.length,nEdge e≤4:=by
  intro wp ep e he
  rcases cX _ _ _ _ e he with rfl | he
  · exact Nat.zero_le _
  ·
   obtain ⟨x,hx,rfl⟩:=List.mem_map.1 he
   have:=CI_ (List.all_eq_true.1 h.ar x hx)
   unfold nEdge nIntS
   show (mp wp (edI x)).length+(mp wp (edO x)).length≤4
   rw [mp_len,mp_len];omega
 have hsum:∀ {l:List Edg} {c:Nat},(∀ a∈l,nEdge a≤c)→tot nEdge l≤l.length*c:=by
  intro l c
  induction l with
  | nil=>intro _;exact Nat.zero_le _
  | cons a l ih=>
   intro hl
   have h1:=ih fun b hb=>hl b (.tail _ hb)
   have h2:=hl a (.head _)
   rw [tot_cons,List.length_cons,Nat.add_mul];omega
 have hs:=hsum (key (fun k=>plc (walk n g).1 k) (fun k=>plc (walk n g).2 k))
 rw [tN] at hs
 unfold nGraph nEdgeS nIntS cnG renG
 dsimp only
 rw [tN,mp_len,mp_len]
 have:tot nEdge (setsL g.2.1.length (fun k=>plc (walk n g).2 k) (g.2.1.map (mpE fun k=>plc (walk n g).1 k)) g.2.1.length)≤240:=by omega
 refine Nat.le_trans (Nat.add_le_add (Nat.add_le_add (Nat.add_le_add h60 this) h12) h13) ?_
 omega
theorem EX_ {P:List (Int×Int)}{n n' B:Nat}{I I' O O':List Int}{E E':List Edg} (h:Dw P [] [] O n I E n' E' B) (hI:LsR P I I') (hO:LsR P O O') :
  ∃ G,wU ((n:Int),E,I,O)=some G∧jU ((n':Int),E',I',O')=some G∧nGraph G.1≤1048576:=by
 obtain ⟨rfl,t,ht,hsur,hls,rfl⟩:=h.same
 obtain rfl:=hls _ _ hI
 obtain rfl:=hls _ _ hO
 have og:=nS (n:=n') (l:=oG ((n':Int),E,I,O)) (fun x=>by
  show (I++(E.map edO).flatten).count x=_
  rw [List.count_append];exact h.og x)
 have en:=nS (n:=n') (l:=ends ((n':Int),E,I,O)) (fun x=>by
  show (O++(E.map edI).flatten).count x=_
  rw [List.count_append,Nat.add_comm];exact h.en x)
 have hIr:fC n' I:=fun x hx=>og.1.r x (List.mem_append_left _ hx)
 have hOr:fC n' O:=fun x hx=>en.1.r x (List.mem_append_left _ hx)
 have hEr:nE n' E:=fun e he=>⟨fun x hx=>en.1.r x (List.mem_append_right _ (List.mem_flatten.2 ⟨edI e,List.mem_map_of_mem he,hx⟩)),fun x hx=>og.1.r x (List.mem_append_right _ (List.mem_flatten.2 ⟨edO e,List.mem_map_of_mem he,hx⟩))⟩
 have hcov:∀ k:Nat,k<n'→(k:Int)∈sD ((n':Int),E,I,O):=fun k hk=>by
  rcases List.mem_append.1 (og.2.2 k hk) with h1 | h1
  · exact mem_allW.2 (.inl h1)
  ·
   obtain ⟨l,hl,hx⟩:=List.mem_flatten.1 h1
   obtain ⟨e,he,rfl⟩:=List.mem_map.1 hl
   exact mem_allW.2 (.inr (.inr ⟨e,he,.inr hx⟩))
 have hcov':∀ k:Nat,k<n'→(k:Int)∈sD (mpG (n':Int) t ((n':Int),E,I,O)):=fun y hy=>by
  obtain ⟨k,hk,e⟩:=hsur y hy
  rw [←e]
  rcases mem_allW.1 (hcov k hk) with h1 | h1 | ⟨e,he,h1⟩
  · exact mem_allW.2 (.inl ((ht.mem hIr hk).2 h1))
  · exact mem_allW.2 (.inr (.inl ((ht.mem hOr hk).2 h1)))
  ·
   refine mem_allW.2 (.inr (.inr ⟨mpE t e,List.mem_map_of_mem he,?_⟩))
   exact h1.imp (fun h1=>(ht.mem (hEr e he).1 hk).2 h1) (fun h1=>(ht.mem (hEr e he).2 hk).2 h1)
 have hEr':nE n' (E.map (mpE t)):=fun e he=>by
  obtain ⟨x,hx,rfl⟩:=List.mem_map.1 he
  exact ⟨ht.rg (hEr x hx).1,ht.rg (hEr x hx).2⟩
 have g1:=Cp_ (g:=((n':Int),E,I,O)) rfl hIr hOr hEr hcov
 have g2:=Cp_ (g:=mpG (n':Int) t ((n':Int),E,I,O)) rfl (ht.rg hIr) (ht.rg hOr) hEr' hcov'
 have hall:(E.map (mpE t)).all arB=E.all arB:=by
  rw [List.all_map]
  congr 1
  funext e
  exact arB_mp t e
 have hgg:gOk (mpG (n':Int) t ((n':Int),E,I,O))=gOk ((n':Int),E,I,O):=by
  rw [g1,g2]
  show (_&&(decide ((E.map (mpE t)).length≤60)&&(decide ((mp t I).length≤12)&&(decide ((mp t O).length≤12)&&(E.map (mpE t)).all arB))))=_
  rw [hall,mp_len,mp_len,List.length_map]
 have hmono:tT (mpG (n':Int) t ((n':Int),E,I,O))=gOk ((n':Int),E,I,O):=by
  have o1:=ht.od og.1
  have o2:=ht.od en.1
  unfold tT
  rw [hgg,org_mp,end_mp]
  show (gOk _&&((decide ((mp t _).length=((n':Int)).toNat)&&kE ((n':Int)).toNat (mp t _))&&(decide ((mp t _).length=((n':Int)).toNat)&&kE ((n':Int)).toNat (mp t _))))=_
  rw [Int.toNat_natCast,mp_len,mp_len,og.2.1,en.2.1]
  unfold kE
  rw [zL o1.r,zL o2.r,decide_eq_true o1.d,decide_eq_true o2.d]
  simp
 cases hg:gOk ((n':Int),E,I,O) with
 | false=>
  rw [hg] at hmono
  refine ⟨(noG,false),bnd (jO _) (stp (cTW (nF hg) rfl)),bnd (BF_ _) (stp (cTW (nF hmono) rfl)),by decide⟩
 | true=>
  rw [hg] at hmono
  obtain ⟨m,hm⟩:=vN hg
  obtain rfl:m=n':=by have:=hm.w;dsimp only at this;omega
  have hrg:=hm.rgd
  have hn:=hm.n100
  have hf:Full m ((m:Int),E,I,O):=by
   refine full_of hrg ?_ ?_ (fun e he=>arB_ne (List.all_eq_true.1 hm.ar e he)) (fun S h1 h2 h3 k hk=>h.co S h1 h2 h3 k (by omega) (by omega))
   · exact (List.nodup_append.1 en.1.d).2.1
   · exact (List.nodup_append.1 og.1.d).2.1
  obtain ⟨c1,c2⟩:=Ff_ (by omega) rfl hrg hf ht
  exact ⟨(cnG m ((m:Int),E,I,O),true),bnd (jO _) (stp (cFW (nT hg) (bnd c1 rfl))),bnd (BF_ _) (stp (cFW (nT hmono) (bnd c2 rfl))),FW_ hm⟩
def ug (n:Nat):List Int:=(List.range n).map fun i:Nat=>(i:Int)
theorem mK (n:Nat):(ug n).length=n:=by simp [ug]
theorem inputs_ {n:Nat} (hn:n≤1000):oU (0,[],[],[]) (n:Int)=some ((n:Int),[],ug n,[]):=by
 have hm:aB=1099511627776:=rfl
 have h0:((0:Int),([]:List Int),(n:Int))=((((0:Nat):Int)),ug 0,((n:Int)-((0:Nat):Int))):=by
  show _=((0:Int),([]:List Int),(n:Int)-0)
  rw [Int.sub_zero]
 show tB _ ((0:Int),([]:List Int),(n:Int))=_
 rw [h0]
 refine sN (fun j=>((j:Int),ug j,(n:Int)-(j:Int))) n (fun j hj=>?_) ?_
 ·
  refine stp (cTW (dT (by dsimp only;omega)) (bnd (dJ (by omega)) (bnd (yB (by rw [mK];simp;omega)) (bnd (gE (by dsimp only;omega) (by dsimp only;omega)) ?_))))
  unfold ug
  dsimp only
  rw [List.range_succ,List.map_append,show (n:Int)-(j:Int)-1=(n:Int)-((j+1:Nat):Int) by omega]
  rfl
 · exact stp (cFW (dF (by dsimp only;omega)) rfl)
theorem wires0_ {n:Nat} (hn:n≤1000):sM (0,[],[],[]) (n:Int)=some (((n:Int),[],[],[]),ug n):=by
 have:=B0_ (n:=0) (E:=[]) (I:=[]) (O:=[]) n (by omega)
 simp only [Nat.zero_add] at this
 exact this
end Go.Proofs.YtngbmcbigcaapaaGreatDoor
namespace Go.Proofs.YtngbmcbigcaapaaGreatDoor
set_option linter.unusedVariables false
def LLsR (P:List (Int×Int)):List (List Int)→List (List Int)→Prop
 | [],[]=>True
 | x::l,y::l'=>LsR P x y∧LLsR P l l'
 | _,_=>False
theorem LLsR.mono {P Q:List (Int×Int)} (h:∀ p∈P,p∈Q):∀ {l l':List (List Int)},LLsR P l l'→LLsR Q l l'
 | [],[],_=>trivial
 | x::l,y::l',hl=>⟨hl.1.mono h,LLsR.mono h hl.2⟩
 | [],_::_,hl=>hl.elim
 | _::_,[],hl=>hl.elim
theorem LLsR.len {P:List (Int×Int)}:∀ {l l':List (List Int)},LLsR P l l'→l.length=l'.length
 | [],[],_=>rfl
 | x::l,y::l',hl=>congrArg (· + 1) hl.2.len
 | [],_::_,hl=>hl.elim
 | _::_,[],hl=>hl.elim
theorem LLsR.get {P:List (Int×Int)}:∀ {l l':List (List Int)}{i:Nat},LLsR P l l'→i<l.length→∃ x y,l[i]?=some x∧l'[i]?=some y∧LsR P x y
 | [],[],_,_,h=>by simp at h
 | x::l,y::l',0,hl,_=>⟨x,y,rfl,rfl,hl.1⟩
 | x::l,y::l',i+1,hl,h=>by
  obtain ⟨x,y,h1,h2,h3⟩:=hl.2.get (i:=i) (by simpa using h)
  exact ⟨x,y,by simpa using h1,by simpa using h2,h3⟩
 | [],_::_,_,hl,_=>hl.elim
 | _::_,[],_,hl,_=>hl.elim
theorem LLsR.set {P:List (Int×Int)}{a b:List Int} (hab:LsR P a b):∀ {l l':List (List Int)} (i:Nat),LLsR P l l'→LLsR P (l.set i a) (l'.set i b)
 | [],[],i,_=>by simp [LLsR]
 | x::l,y::l',0,hl=>⟨hab,hl.2⟩
 | x::l,y::l',i+1,hl=>⟨hl.1,LLsR.set hab i hl.2⟩
 | [],_::_,_,hl=>hl.elim
 | _::_,[],_,hl=>hl.elim
theorem LLsR.rep (P:List (Int×Int)):∀ n,LLsR P (List.replicate n []) (List.replicate n [])
 | 0=>trivial
 | n+1=>⟨trivial,LLsR.rep P n⟩
theorem BL_:∀ {A:List (List Int)}{j:Nat}{l:List Int} (w x:Int),A[j]?=some l→(A.set j (l++[w])).flatten.count x=A.flatten.count x+(if x=w then 1 else 0)
 | [],j,l,w,x,h=>by simp at h
 | a::A,0,l,w,x,h=>by
  obtain rfl:=Option.some.inj h
  simp only [List.set_cons_zero,List.flatten_cons,List.count_append,cnt1];omega
 | a::A,j+1,l,w,x,h=>by
  have ih:=BL_ (A:=A) (j:=j) w x (by simpa using h)
  simp only [List.set_cons_succ,List.flatten_cons,List.count_append,ih];omega
theorem zJ {σ τ:Type}{f:Nat→σ→Option σ}{g:Nat→τ→Option τ} (I:Nat→σ→τ→Prop):∀ (n k:Nat) (s:σ) (t:τ),I k s t→(∀ j s t,k≤j→j<k+n→I j s t→∃ s' t',f j s=some s'∧g j t=some t'∧I (j+1) s' t') →
  ∃ r q,jA f n k s=some r∧jA g n k t=some q∧I (k+n) r q
 | 0,k,s,t,h0,_=>⟨s,t,rfl,rfl,h0⟩
 | n+1,k,s,t,h0,h=>by
  obtain ⟨s',t',h1,h2,h3⟩:=h k s t (Nat.le_refl _) (by omega) h0
  obtain ⟨r,q,h4,h5,h6⟩:=zJ I n (k+1) s' t' h3 (fun j s t hj hl hi=>h j s t (by omega) (by omega) hi)
  refine ⟨r,q,?_,?_,by rwa [show k+1+n=k+(n+1) by omega] at h6⟩
  ·
   show (f k s).bind _=_
   rw [h1];exact h4
  ·
   show (g k t).bind _=_
   rw [h2];exact h5
def plN (row:List Int):Nat→List Int
 | 0=>[]
 | j+1=>match row[j]? with
  | some a=>if a=0 then plN row j else plN row j++[(j:Int)]
  | none=>plN row j
theorem sR {row:List Int}{j:Nat} (hj:j<row.length):plN row (j+1)=if row[j]=0 then plN row j else plN row j++[(j:Int)]:=by
 show (match row[j]? with
  | some a=>if a=0 then plN row j else plN row j++[(j:Int)]
  | none=>plN row j)=_
 rw [List.getElem?_eq_getElem hj]
theorem yX (row:List Int):∀ j,j≤row.length→(plN row j).length≤j
 | 0,_=>Nat.le_refl _
 | j+1,hj=>by
  have:=yX row j (by omega)
  rw [sR (by omega)]
  split
  · omega
  · simp;omega
theorem xX (row:List Int):∀ j,j≤row.length→∀ x∈plN row j,∃ k:Nat,x=(k:Int)∧∃ h:k<row.length,row[k]≠0
 | 0,_,x,hx=>by cases hx
 | j+1,hj,x,hx=>by
  rw [sR (by omega)] at hx
  split at hx
  · exact xX row j (by omega) x hx
  ·
   rcases List.mem_append.1 hx with hx | hx
   · exact xX row j (by omega) x hx
   ·
    simp at hx
    exact ⟨j,hx,by omega,‹_›⟩
theorem Cf_ (row:List Int):∀ j,j≤row.length→plN row j=[]→∀ k,∀ h:k<row.length,k<j→row[k]=0
 | 0,_,_,k,_,hk=>by omega
 | j+1,hj,he,k,h,hk=>by
  rw [sR (by omega)] at he
  split at he
  ·
   by_cases hkj:k=j
   · subst hkj;assumption
   · exact Cf_ row j (by omega) he k h (by omega)
  · simp at he
theorem plS_ {row:List Int} (hl:row.length≤1000){f:Nat→List Int→Option (List Int)} (hf:∀ k s,f k s=((idxO row ((k:Nat):Int)).bind fun a=>(some (!decide (a=0))).bind fun b=>cond b ((xA s [((k:Nat):Int)]).bind fun c=>some c) (some s))) :
  jA f row.length 0 []=some (plN row row.length):=by
 have hm:aB=1099511627776:=rfl
 refine kC (f:=f) (n:=row.length) (fun j=>plN row j) (fun j hj=>?_)
 rw [hf]
 have:=yX row j (by omega)
 rw [sR hj]
 refine bnd (pA (List.getElem?_eq_getElem hj)) (stp ?_)
 by_cases h0:row[j]=0
 ·
  rw [if_pos h0]
  exact cFW (nT (dT h0)) rfl
 ·
  rw [if_neg h0]
  exact cTW (nF (dF h0)) (bnd (yB (by simp;omega)) rfl)
structure Mx (cols:Nat) (P:List (Int×Int)) (U V D:List Int) (n:Nat) (I:List Int) (E:List Edg) (n':Nat) (E':List Edg) (B:Nat) (A A':List (List Int)):Prop where
 d:Dw P U V (A.flatten++D) n I E n' E' B
 r:LLsR P A A'
 l:A.length=cols
theorem Mx.put {cols:Nat}{P:List (Int×Int)}{U V D:List Int}{n n' B:Nat}{I:List Int}{E E':List Edg}{A A':List (List Int)}{j:Nat}{x y:Int}{a b:List Int}
  (d:Dw P U V (x::(A.flatten++D)) n I E n' E' B) (r:LLsR P A A') (l:A.length=cols) (ha:A[j]?=some a) (hb:A'[j]?=some b) (hab:LsR P a b) (hxy:(x,y)∈P):Mx cols P U V D n I E n' E' B (A.set j (a++[x])) (A'.set j (b++[y])):=by
 refine ⟨d.perm fun z=>?_,r.set (hab.app (m:=[x]) (m':=[y]) ⟨hxy,trivial⟩) j,by rw [List.length_set];exact l⟩
 rw [cntC,List.count_append,List.count_append,BL_ x z ha];omega
theorem BO_:∀ {A:List (List Int)}{j:Nat}{a:List Int},A[j]?=some a→a.length≤A.flatten.length
 | [],_,_,h=>by simp at h
 | b::A,0,a,h=>by
  obtain rfl:=Option.some.inj h
  rw [List.flatten_cons,List.length_append];omega
 | b::A,j+1,a,h=>by
  have:=BO_ (A:=A) (j:=j) (by simpa using h)
  rw [List.flatten_cons,List.length_append];omega
theorem fan0S {fuel:Nat}{n:Int}{E:List Edg}{I O:List Int} (w:Int) (hE:E.length≤1000000):wK (fuel+1) (n,E,I,O) w 0=some ((n,E++[(4,0,[w],[])],I,O),[]):=stp (cTW rfl (bnd (gJ hE _ _ _ _) rfl))
theorem fan0I {fuel:Nat}{n:Int}{E:List Edg}{I O:List Int} (w:Int) (hE:E.length≤1000000):uK (fuel+1) (n,E,I,O) w 0=some ((n,E++[(4,0,[w],[])],I,O),[]):=stp (cTW rfl (bnd (iJ hE _ _ _ _) rfl))
theorem row_sim (I2 O2 I3 O3:List Int){cols:Nat}{row:List Int} (hrow:row.length=cols) (hcols:cols≤24){P:List (Int×Int)}{U V D:List Int}{n n' B:Nat}{I:List Int}{E E':List Edg}{A A':List (List Int)}{w w':Int}
  (h:Mx cols P U V (w::D) n I E n' E' B A A') (hw:(w,w')∈P) (hz:plN row row.length=[]→w∈I) (hB:B≤100000) :
  ∃ P' n1 E1 n1' E1' A1 A1',
   ((yM ((n:Int),E,I2,O2) w (((plN row row.length).length:Nat):Int)).bind fun y1105=>
    (jA (fun (k1112:Nat) (s1358:Int×(List (Int×Int×List Int×List Int))×List (List Int))=>
     (idxO y1105.2 ((k1112:Nat):Int)).bind fun a1374=>
     (idxO (plN row row.length) ((k1112:Nat):Int)).bind fun a1382=>
     ((idxO row a1382).bind fun a1431=>
      (some (!decide (a1431=1))).bind fun a1433=>
      cond a1433
      ((xE (s1358.1,s1358.2.1,I2,O2)).bind fun y1437=>
       (idxO row a1382).bind fun a1446=>
       (rE (y1437.1.1,s1358.2.1,I2,O2) 7 a1446 [a1374] [y1437.2]).bind fun y1454=>
       some (y1454.1,y1454.2.1,y1437.2))
      (some (s1358.1,s1358.2.1,a1374))).bind fun (s1418:Int×(List (Int×Int×List Int×List Int))×Int)=>
     (idxO s1358.2.2 a1382).bind fun a1467=>
     (xA a1467 [s1418.2.2]).bind fun a1474=>
     (iA s1358.2.2 a1382 a1474).bind fun a1486=>
     some (s1418.1,s1418.2.1,a1486)) y1105.2.length 0 (y1105.1.1,y1105.1.2.1,A)))=some (((n1:Nat):Int),E1,A1) ∧
   ((rM ((n':Int),E',I3,O3) w' (((plN row row.length).length:Nat):Int)).bind fun y1012=>
    (jA (fun (k1019:Nat) (s1233:Int×(List (Int×Int×List Int×List Int))×List (List Int))=>
     (idxO y1012.2 ((k1019:Nat):Int)).bind fun a1249=>
     (idxO (plN row row.length) ((k1019:Nat):Int)).bind fun a1257=>
     ((idxO row a1257).bind fun a1298=>
      (some (!decide (a1298=1))).bind fun a1300=>
      cond a1300
      ((dG (s1233.1,s1233.2.1,I3,O3)).bind fun y1304=>
       (qE (y1304.1.1,s1233.2.1,I3,O3) 7 a1298 [a1249] [y1304.2]).bind fun y1313=>
       some (y1313.1,y1313.2.1,y1304.2))
      (some (s1233.1,s1233.2.1,a1249))).bind fun (s1285:Int×(List (Int×Int×List Int×List Int))×Int)=>
     (idxO s1233.2.2 a1257).bind fun a1326=>
     (xA a1326 [s1285.2.2]).bind fun a1333=>
     (iA s1233.2.2 a1257 a1333).bind fun a1345=>
     some (s1285.1,s1285.2.1,a1345)) y1012.2.length 0 (y1012.1.1,y1012.1.2.1,A')))=some (((n1':Nat):Int),E1',A1') ∧
   (∀ p∈P,p∈P')∧Mx cols P' U V D n1 I E1 n1' E1' (B+80) A1 A1':=by
 have hm:aB=1099511627776:=rfl
 have hk:=yX row row.length (Nat.le_refl _)
 have hpm:=xX row row.length (Nat.le_refl _)
 generalize plN row row.length=cl at hk hpm hz
 have d0:=h.d
 have b1:=d0.b1;have b2:=d0.b2;have b3:=d0.b3
 have hle:=d0.ed.len
 by_cases h0:cl=[]
 ·
  subst h0
  have d1:=(d0.perm (D1:=w::(A.flatten++D)) (fun x=>by simp only [List.count_append,cntC];omega)).edge0 4 0 hw (fun S h1 _=>h1 w (hz rfl))
  refine ⟨P,n,_,n',_,A,A',?_,?_,fun p hp=>hp,d1.up (by omega),h.r,h.l⟩
  · exact bnd (fan0S (fuel:=999999) w (by omega)) rfl
  · exact bnd (fan0I (fuel:=999999) w' (by omega)) rfl
 have hpos:1≤cl.length:=List.length_pos_iff.2 h0
 obtain ⟨P1,n1,E1,n1',E1',r,r',k1,k2,k3,k4,k5,k6⟩:=Ct_ I2 O2 I3 O3 cl.length 1000000 hpos (by omega) (d0.perm (D1:=w::(A.flatten++D)) (fun x=>by simp only [List.count_append,cntC];omega)) hw (by omega)
 obtain ⟨s,t,h1,h2,P2,n2,E2,n2',E2',A2,A2',rfl,rfl,h3,h4⟩:=zJ (f:=fun (k1112:Nat) (s1358:Int×(List (Int×Int×List Int×List Int))×List (List Int))=>
     (idxO r ((k1112:Nat):Int)).bind fun a1374=>
     (idxO cl ((k1112:Nat):Int)).bind fun a1382=>
     ((idxO row a1382).bind fun a1431=>
      (some (!decide (a1431=1))).bind fun a1433=>
      cond a1433
      ((xE (s1358.1,s1358.2.1,I2,O2)).bind fun y1437=>
       (idxO row a1382).bind fun a1446=>
       (rE (y1437.1.1,s1358.2.1,I2,O2) 7 a1446 [a1374] [y1437.2]).bind fun y1454=>
       some (y1454.1,y1454.2.1,y1437.2))
      (some (s1358.1,s1358.2.1,a1374))).bind fun (s1418:Int×(List (Int×Int×List Int×List Int))×Int)=>
     (idxO s1358.2.2 a1382).bind fun a1467=>
     (xA a1467 [s1418.2.2]).bind fun a1474=>
     (iA s1358.2.2 a1382 a1474).bind fun a1486=>
     some (s1418.1,s1418.2.1,a1486))
  (g:=fun (k1019:Nat) (s1233:Int×(List (Int×Int×List Int×List Int))×List (List Int))=>
     (idxO r' ((k1019:Nat):Int)).bind fun a1249=>
     (idxO cl ((k1019:Nat):Int)).bind fun a1257=>
     ((idxO row a1257).bind fun a1298=>
      (some (!decide (a1298=1))).bind fun a1300=>
      cond a1300
      ((dG (s1233.1,s1233.2.1,I3,O3)).bind fun y1304=>
       (qE (y1304.1.1,s1233.2.1,I3,O3) 7 a1298 [a1249] [y1304.2]).bind fun y1313=>
       some (y1313.1,y1313.2.1,y1304.2))
      (some (s1233.1,s1233.2.1,a1249))).bind fun (s1285:Int×(List (Int×Int×List Int×List Int))×Int)=>
     (idxO s1233.2.2 a1257).bind fun a1326=>
     (xA a1326 [s1285.2.2]).bind fun a1333=>
     (iA s1233.2.2 a1257 a1333).bind fun a1345=>
     some (s1285.1,s1285.2.1,a1345))
  (fun j s t=>∃ P2 n2 E2 n2' E2' A2 A2',s=(((n2:Nat):Int),E2,A2)∧t=(((n2':Nat):Int),E2',A2')∧(∀ p∈P1,p∈P2)∧Mx cols P2 U V (r.drop j++D) n2 I E2 n2' E2' (B+2*cl.length+j) A2 A2') cl.length 0 (((n1:Nat):Int),E1,A) (((n1':Nat):Int),E1',A')
  ⟨P1,n1,E1,n1',E1',A,A',rfl,rfl,fun p hp=>hp,k6.perm (fun x=>by simp only [List.drop_zero,List.count_append];omega),h.r.mono k3,h.l⟩ (by
   rintro j s t _ hj ⟨P2,n2,E2,n2',E2',A2,A2',rfl,rfl,hP,hd,hr,hl⟩
   rw [Nat.zero_add] at hj
   obtain ⟨x,y,hx,hy,hxy⟩:=(k4.mono hP).get (i:=j) (by omega)
   have hxr:r.drop j=x::r.drop (j+1):=by
    obtain ⟨q1,q2⟩:=List.getElem?_eq_some_iff.1 hx
    rw [List.drop_eq_getElem_cons q1,q2]
   obtain ⟨c,hc,hcl,hcn⟩:=hpm _ (List.getElem_mem hj)
   obtain ⟨a,b,ha,hb,hab⟩:=hr.get (i:=c) (by omega)
   have e1:=hd.b1;have e2:=hd.b2;have e3:=hd.b3;have el:=hd.ed.len
   have hda:=hd.len
   have hfl:=BO_ ha
   rw [List.length_append] at hda
   have hal:=hab.len
   have hci:idxO cl (j:Int)=some (c:Int):=by rw [←hc];exact pA (List.getElem?_eq_getElem hj)
   have hrc:idxO row (c:Int)=some row[c]:=pA (List.getElem?_eq_getElem hcl)
   have hd2:=hd.perm (D1:=x::(A2.flatten++(r.drop (j+1)++D))) (fun z=>by rw [hxr];simp only [List.count_append,List.cons_append,cntC];omega)
   have hcA:c<A2.length:=by omega
   have hcA':c<A2'.length:=by rw [←hr.len];omega
   by_cases h1:row[c]=1
   ·
    have hmx:=Mx.put hd2 hr hl ha hb hab hxy
    refine ⟨_,_,?_,?_,P2,n2,E2,n2',E2',_,_,rfl,rfl,hP,hmx.1.up (by omega),hmx.2,hmx.3⟩
    · exact bnd (pA hx) (bnd hci (bnd (bnd hrc (stp (cFW (nT (dT h1)) rfl))) (bnd (pA ha) (bnd (yB (by simp;omega)) (bnd (nC _ hcA) rfl)))))
    · exact bnd (pA hy) (bnd hci (bnd (bnd hrc (stp (cFW (nT (dT h1)) rfl))) (bnd (pA hb) (bnd (yB (by simp;omega)) (bnd (nC _ hcA') rfl)))))
   ·
    have hd3:=Dw.edge1 (ins:=[x]) (ins':=[y]) 7 row[c] hd2.wireI ⟨hxy,trivial⟩
    have hsub:∀ p∈P2,p∈P2++[((n2:Int),(n2':Int))]:=fun p hp=>List.mem_append_left _ hp
    have hmx:=Mx.put (y:=(n2':Int)) (hd3.setB (B1:=B+2*cl.length+(j+1)) (by omega) (by omega) (by simp;omega)) (hr.mono hsub) hl ha hb (hab.mono hsub) (by simp)
    refine ⟨_,_,?_,?_,_,n2+1,_,n2'+1,_,_,_,rfl,rfl,fun p hp=>hsub p (hP p hp),hmx⟩
    · exact bnd (pA hx) (bnd hci (bnd (bnd hrc (stp (cTW (nF (dF h1)) (bnd (dJ (by omega)) (bnd hrc (bnd (gJ (by dsimp only;omega) _ _ _ _) rfl)))))) (bnd (pA ha) (bnd (yB (by simp;omega)) (bnd (nC _ hcA) rfl)))))
    · exact bnd (pA hy) (bnd hci (bnd (bnd hrc (stp (cTW (nF (dF h1)) (bnd (yL (by omega)) (bnd (iJ (by dsimp only;omega) _ _ _ _) rfl))))) (bnd (pA hb) (bnd (yB (by simp;omega)) (bnd (nC _ hcA') rfl))))))
 refine ⟨P2,n2,E2,n2',E2',A2,A2',bnd k1 ?_,bnd k2 ?_,fun p hp=>h3 p (k3 p hp),(h4.d.perm fun x=>?_).up (by omega),h4.r,h4.l⟩
 ·
  dsimp only
  rw [k5];exact h1
 ·
  dsimp only
  rw [←k4.len,k5];exact h2
 · rw [Nat.zero_add,← k5,List.drop_length,List.nil_append]
theorem E6_ (I2 O2 I3 O3:List Int){cols:Nat}{rows:List (List Int)} (hrows:∀ row∈rows,row.length=cols) (hcols:cols≤24) (hr24:rows.length≤24){P:List (Int×Int)}{U V D:List Int}{n n' B:Nat}{I:List Int}{E E':List Edg}{ins ins':List Int}
  (h:Dw P U V (ins++D) n I E n' E' B) (hi:LsR P ins ins') (hl:ins.length=rows.length) (hz:∀ (i:Nat) (row:List Int) (w:Int),rows[i]?=some row→ins[i]?=some w→plN row row.length=[]→w∈I) (hB:B≤1000) :
  ∃ P' n1 E1 n1' E1' out out',nU ((n:Int),E,I2,O2) ins rows (cols:Int)=some ((((n1:Nat):Int),E1,I2,O2),out)∧iU ((n':Int),E',I3,O3) ins' rows (cols:Int)=some ((((n1':Nat):Int),E1',I3,O3),out') ∧
   (∀ p∈P,p∈P')∧LsR P' out out'∧out.length=cols∧Dw P' U V (out++D) n1 I E1 n1' E1' 20000:=by
 have hm:aB=1099511627776:=rfl
 obtain ⟨s,t,h1,h2,P1,n1,E1,n1',E1',A1,A1',rfl,rfl,h3,h4⟩:=zJ (f:=fun (k10:Nat) (s994:Int×(List (Int×Int×List Int×List Int))×List (List Int))=>
   (idxO rows ((k10:Nat):Int)).bind fun a1010=>
   (jA (fun (k1014:Nat) (s1061:List Int)=>
     (idxO a1010 ((k1014:Nat):Int)).bind fun a1078=>
     (some (!decide (a1078=0))).bind fun a1080=>
     cond a1080
     ((xA s1061 [((k1014:Nat):Int)]).bind fun a1087=>
      some a1087)
     (some s1061)) a1010.length 0 []).bind fun (s1094:List Int)=>
   (idxO ins ((k10:Nat):Int)).bind fun a1103=>
   (yM (s994.1,s994.2.1,I2,O2) a1103 ((s1094.length:Nat):Int)).bind fun y1105=>
   (jA (fun (k1112:Nat) (s1358:Int×(List (Int×Int×List Int×List Int))×List (List Int))=>
     (idxO y1105.2 ((k1112:Nat):Int)).bind fun a1374=>
     (idxO s1094 ((k1112:Nat):Int)).bind fun a1382=>
     ((idxO a1010 a1382).bind fun a1431=>
      (some (!decide (a1431=1))).bind fun a1433=>
      cond a1433
      ((xE (s1358.1,s1358.2.1,I2,O2)).bind fun y1437=>
       (idxO a1010 a1382).bind fun a1446=>
       (rE (y1437.1.1,s1358.2.1,I2,O2) 7 a1446 [a1374] [y1437.2]).bind fun y1454=>
       some (y1454.1,y1454.2.1,y1437.2))
      (some (s1358.1,s1358.2.1,a1374))).bind fun (s1418:Int×(List (Int×Int×List Int×List Int))×Int)=>
     (idxO s1358.2.2 a1382).bind fun a1467=>
     (xA a1467 [s1418.2.2]).bind fun a1474=>
     (iA s1358.2.2 a1382 a1474).bind fun a1486=>
     some (s1418.1,s1418.2.1,a1486)) y1105.2.length 0 (y1105.1.1,y1105.1.2.1,s994.2.2)).bind fun (s1490:Int×(List (Int×Int×List Int×List Int))×List (List Int))=>
   some (s1490.1,s1490.2.1,s1490.2.2))
  (g:=fun (k10:Nat) (s900:Int×(List (Int×Int×List Int×List Int))×List (List Int))=>
   (idxO rows ((k10:Nat):Int)).bind fun a916=>
   (jA (fun (k923:Nat) (s969:List Int)=>
     (idxO a916 ((k923:Nat):Int)).bind fun a985=>
     (some (!decide (a985=0))).bind fun a987=>
     cond a987
     ((xA s969 [((k923:Nat):Int)]).bind fun a994=>
      some a994)
     (some s969)) a916.length 0 ([]:List Int)).bind fun (s1001:List Int)=>
   (idxO ins' ((k10:Nat):Int)).bind fun a1010=>
   (rM (s900.1,s900.2.1,I3,O3) a1010 ((s1001.length:Nat):Int)).bind fun y1012=>
   (jA (fun (k1019:Nat) (s1233:Int×(List (Int×Int×List Int×List Int))×List (List Int))=>
     (idxO y1012.2 ((k1019:Nat):Int)).bind fun a1249=>
     (idxO s1001 ((k1019:Nat):Int)).bind fun a1257=>
     ((idxO a916 a1257).bind fun a1298=>
      (some (!decide (a1298=1))).bind fun a1300=>
      cond a1300
      ((dG (s1233.1,s1233.2.1,I3,O3)).bind fun y1304=>
       (qE (y1304.1.1,s1233.2.1,I3,O3) 7 a1298 [a1249] [y1304.2]).bind fun y1313=>
       some (y1313.1,y1313.2.1,y1304.2))
      (some (s1233.1,s1233.2.1,a1249))).bind fun (s1285:Int×(List (Int×Int×List Int×List Int))×Int)=>
     (idxO s1233.2.2 a1257).bind fun a1326=>
     (xA a1326 [s1285.2.2]).bind fun a1333=>
     (iA s1233.2.2 a1257 a1333).bind fun a1345=>
     some (s1285.1,s1285.2.1,a1345)) y1012.2.length 0 (y1012.1.1,y1012.1.2.1,s900.2.2)).bind fun (s1349:Int×(List (Int×Int×List Int×List Int))×List (List Int))=>
   some (s1349.1,s1349.2.1,s1349.2.2))
  (fun i s t=>∃ P1 n1 E1 n1' E1' A1 A1',s=(((n1:Nat):Int),E1,A1)∧t=(((n1':Nat):Int),E1',A1')∧(∀ p∈P,p∈P1)∧Mx cols P1 U V (ins.drop i++D) n1 I E1 n1' E1' (B+80*i) A1 A1') rows.length 0 ((n:Int),E,List.replicate cols []) ((n':Int),E',List.replicate cols [])
  ⟨P,n,E,n',E',_,_,rfl,rfl,fun p hp=>hp,h.perm (fun x=>by simp [List.count_append]),LLsR.rep P cols,by simp⟩ (by
   rintro i s t _ hj ⟨P1,n1,E1,n1',E1',A1,A1',rfl,rfl,hP,hx⟩
   rw [Nat.zero_add] at hj
   obtain ⟨w,w',hw,hw',hww⟩:=(hi.mono hP).get (i:=i) (by omega)
   have hwr:ins.drop i=w::ins.drop (i+1):=by
    obtain ⟨q1,q2⟩:=List.getElem?_eq_some_iff.1 hw
    rw [List.drop_eq_getElem_cons q1,q2]
   have hrow:=hrows _ (List.getElem_mem hj)
   rw [hwr] at hx
   obtain ⟨P2,n2,E2,n2',E2',A2,A2',k1,k2,k3,k4⟩:=row_sim I2 O2 I3 O3 hrow hcols hx hww (hz i _ w (List.getElem?_eq_getElem hj) hw) (by omega)
   refine ⟨_,_,bnd (pA (List.getElem?_eq_getElem hj)) (bnd (plS_ (by omega) (fun _ _=>rfl)) (bnd (pA hw) ?_)),bnd (pA (List.getElem?_eq_getElem hj)) (bnd (plS_ (by omega) (fun _ _=>rfl)) (bnd (pA hw') ?_)),P2,n2,E2,n2',E2',A2,A2',rfl,rfl,fun p hp=>k3 p (hP p hp),k4.d.up (by omega),k4.r,k4.l⟩
   ·
    revert k1
    generalize (yM _ _ _)=m
    intro k1
    cases m with
    | none=>cases k1
    | some y=>exact stp (bnd k1 rfl)
   ·
    revert k2
    generalize (rM _ _ _)=m
    intro k2
    cases m with
    | none=>cases k2
    | some y=>exact stp (bnd k2 rfl))
 rw [Nat.zero_add] at h4
 have d4:Dw P1 U V (A1.flatten++D) n1 I E1 n1' E1' (B+80*rows.length):=h4.d.perm fun x=>by rw [←hl,List.drop_length,List.nil_append]
 have hn1:=d4.b1
 have hfl:A1.flatten.length≤3000:=by
  have:=d4.len
  rw [List.length_append] at this
  omega
 have hAl:=h4.l
 have hAr:=h4.r
 have hdl:∀ (A:List (List Int)) (j:Nat) (a:List Int),A[j]?=some a→(A.drop j).flatten.length=a.length+(A.drop (j+1)).flatten.length:=fun A j a ha=>by
  obtain ⟨q1,q2⟩:=List.getElem?_eq_some_iff.1 ha
  rw [List.drop_eq_getElem_cons q1,q2];simp
 obtain ⟨s,t,c1,c2,P2,n2,E2,n2',E2',out,out',rfl,rfl,c3,c4,c5,c6⟩:=zJ (f:=fun (k1498:Nat) (s1578:Int×(List (Int×Int×List Int×List Int))×List Int)=>
   (idxO A1 ((k1498:Nat):Int)).bind fun a1596=>
   (gV (s1578.1,s1578.2.1,I2,O2) a1596).bind fun y1600=>
   (xA s1578.2.2 [y1600.2]).bind fun a1608=>
   some (y1600.1.1,y1600.1.2.1,a1608))
  (g:=fun (k1360:Nat) (s1438:Int×(List (Int×Int×List Int×List Int))×List Int)=>
   (idxO A1' ((k1360:Nat):Int)).bind fun a1455=>
   (bV (s1438.1,s1438.2.1,I3,O3) a1455).bind fun y1459=>
   (xA s1438.2.2 [y1459.2]).bind fun a1467=>
   some (y1459.1.1,y1459.1.2.1,a1467))
  (fun j s t=>∃ P2 n2 E2 n2' E2' out out',s=(((n2:Nat):Int),E2,out)∧t=(((n2':Nat):Int),E2',out')∧(∀ p∈P1,p∈P2)∧LsR P2 out out'∧out.length=j∧Dw P2 U V (out++((A1.drop j).flatten++D)) n2 I E2 n2' E2' (10000-2*(A1.drop j).flatten.length+2*j)) cols 0 (((n1:Nat):Int),E1,[]) (((n1':Nat):Int),E1',[])
  ⟨P1,n1,E1,n1',E1',[],[],rfl,rfl,fun p hp=>hp,trivial,rfl,d4.up (by rw [List.drop_zero];omega)⟩ (by
   rintro j s t _ hj ⟨P2,n2,E2,n2',E2',out,out',rfl,rfl,hP,ho,hol,hd⟩
   rw [Nat.zero_add] at hj
   obtain ⟨a,b,ha,hb,hab⟩:=(hAr.mono hP).get (i:=j) (by omega)
   have hd1:=hdl A1 j a ha
   have hdr:A1.drop j=a::A1.drop (j+1):=by
    obtain ⟨q1,q2⟩:=List.getElem?_eq_some_iff.1 ha
    rw [List.drop_eq_getElem_cons q1,q2]
   have hdf:(A1.drop j).flatten.length≤3000:=by
    have:(A1.take j).flatten.length+(A1.drop j).flatten.length=A1.flatten.length:=by
     rw [←List.length_append,← List.flatten_append,List.take_append_drop]
    omega
   have hd2:=hd.perm (D1:=a++(out++((A1.drop (j+1)).flatten++D))) (fun x=>by
    rw [hdr,List.flatten_cons]
    simp only [List.count_append];omega)
   obtain ⟨P3,n3,E3,n3',E3',x,y,k1,k2,k3,k4,k5⟩:=B7_ I2 O2 I3 O3 a.length 1000000 (by omega) rfl hd2 hab (by omega)
   refine ⟨_,_,bnd (pA ha) (bnd k1 (bnd (yB (by simp;omega)) rfl)),bnd (pA hb) (bnd k2 (bnd (yB (by rw [←ho.len];simp;omega)) rfl)),P3,n3,E3,n3',E3',out++[x],out'++[y],rfl,rfl,fun p hp=>k3 p (hP p hp),(ho.mono k3).app (m:=[x]) (m':=[y]) ⟨k4,trivial⟩,by simp [hol],(k5.perm fun z=>?_).up (by omega)⟩
   rw [cntC]
   simp only [List.count_append,cnt1];omega)
 rw [Nat.zero_add] at c5 c6
 refine ⟨P2,n2,E2,n2',E2',out,out',?_,?_,fun p hp=>c3 p (h3 p hp),c4,c5,(c6.perm fun x=>?_).up (by omega)⟩
 ·
  refine bnd (wF _ (by omega)) (bnd h1 ?_)
  dsimp only
  rw [hAl]
  exact bnd c1 rfl
 ·
  refine bnd (wF _ (by omega)) (bnd h2 ?_)
  dsimp only
  rw [←hAr.len,hAl]
  exact bnd c2 rfl
 · rw [←hAl,List.drop_length,List.flatten_nil,List.nil_append]
end Go.Proofs.YtngbmcbigcaapaaGreatDoor
namespace Go.Proofs.YtngbmcbigcaapaaGreatDoor
def powBody (p:Int) (s:Int×Int×Int):Option ((Int×Int×Int)⊕Int):=
   (some (decide ((0:Int)<s.2.1))).bind fun a226=>
   cond a226
   (((kD s.2.1 2).bind fun a247=>
     (some (decide (a247=1))).bind fun a249=>
     cond a249
     ((qF s.2.2 s.1).bind fun a253=>
      (kD a253 p).bind fun a255=>
      some a255)
     (some s.2.2)).bind fun (s241:Int)=>
    (qF s.1 s.1).bind fun a259=>
    (kD a259 p).bind fun a261=>
    (quoO s.2.1 2).bind fun a263=>
    some (.inl (a261,a263,s241)))
   (some (.inr s.2.2))
def invN (p x:Nat):Option Int:=oF (powBody p) 9 ((x:Int),(p:Int)-2+(if p=2 then 1 else 0),(1:Int).tmod p)
def wT (p x:Nat):Bool:=match invN p x with
 | some v=>decide (((x:Int)*v) % p=1)&&decide (0≤v)&&decide (v<p)
 | none=>false
theorem inv_all:((List.range 98).all fun p=>!fdB p||(List.range p).all fun x=>decide (x=0)||wT p x)=true:=by decide +kernel
def rD (p x:Int):Int:=(invN p.toNat x.toNat).getD 0
theorem gO {p x:Int} (hf:fdB p=true) (hx:0<x∧x<p):aW p x=some (rD p x)∧(x*rD p x) % p=1∧0≤rD p x∧rD p x<p:=by
 have hp:=aC hf
 obtain ⟨k,rfl⟩:∃ k:Nat,p=(k:Int):=⟨p.toNat,by omega⟩
 obtain ⟨y,rfl⟩:∃ y:Nat,x=(y:Int):=⟨x.toNat,by omega⟩
 have h1:=List.all_eq_true.1 inv_all k (List.mem_range.2 (by omega))
 rw [hf] at h1
 have h2:∀ x:Nat,x<k→x=0∨wT k x=true:=by simpa using h1
 have h3:wT k y=true:=by
  rcases h2 y (by omega) with h2 | h2
  · omega
  · exact h2
 unfold wT at h3
 unfold rD
 rw [Int.toNat_natCast,Int.toNat_natCast]
 cases hv:invN k y with
 | none=>rw [hv] at h3;cases h3
 | some v=>
  rw [hv] at h3
  simp only [Bool.and_eq_true,decide_eq_true_eq] at h3
  refine ⟨?_,h3.1.1,h3.1.2,h3.2⟩
  refine bnd (gE (by omega) (by omega)) (stp (bnd (a:=(if k=2 then 1 else 0:Int)) ?_ (bnd (bC (by split <;> omega) (by split <;> omega)) (bnd (a:=v) ?_ rfl))))
  ·
   by_cases h:k=2
   · subst h;rfl
   · rw [dF (by omega),if_neg h];rfl
  ·
   refine bnd (nG (by omega)) (bnd ?_ rfl)
   exact whileO_iff.2 ⟨9,hv⟩
theorem E8_ {p x s t:Int} (h1:(x*s) % p=1) (h2:(x*t) % p=1) (hs:0≤s∧s<p) (ht:0≤t∧t<p):s=t:=by
 have e1:s % p=(s*((x*t) % p)) % p:=by rw [h2,Int.mul_one]
 have e2:t % p=(t*((x*s) % p)) % p:=by rw [h1,Int.mul_one]
 rw [Int.mul_emod,Int.emod_emod_of_dvd _ (Int.dvd_refl p),← Int.mul_emod] at e1 e2
 rw [show s*(x*t)=t*(x*s) by rw [Int.mul_left_comm,Int.mul_comm s t,Int.mul_left_comm]] at e1
 rw [←e2,Int.emod_eq_of_lt hs.1 hs.2,Int.emod_eq_of_lt ht.1 ht.2] at e1
 exact e1
theorem fdInv_ {p x:Int} (hf:fdB p=true) (hx:0<x∧x<p):wQ p x=some (rD p x):=by
 have hp:=aC hf
 obtain ⟨_,h1,h2,h3⟩:=gO hf hx
 have h0:rD p x≠0:=by intro h;rw [h,Int.mul_zero,Int.zero_emod] at h1;cases h1
 obtain ⟨k,hk⟩:∃ k:Nat,rD p x=(k:Int)+1:=⟨(rD p x-1).toNat,by omega⟩
 refine sqW (sN (fun j=>(j:Int)+1) (t:=.inr (rD p x)) k ?_ ?_) rfl
 ·
  intro j hj
  have hm:=aP hp (by omega:0≤x∧x<p) (by omega:0≤(j:Int)+1∧(j:Int)+1<p)
  refine stp (cTW (dT (by omega)) (bnd (pO (by omega) (by omega)) (bnd (nG (by omega)) (stp ?_))))
  rw [Int.tmod_eq_emod_of_nonneg hm.1]
  refine cFW (dF ?_) (bnd (bC (by omega) (by omega)) rfl)
  intro h
  have:=E8_ h h1 (by omega) (by omega)
  omega
 ·
  have hm:=aP hp (by omega:0≤x∧x<p) (by omega:0≤(k:Int)+1∧(k:Int)+1<p)
  refine stp (cTW (dT (by omega)) (bnd (pO (by omega) (by omega)) (bnd (nG (by omega)) (stp ?_))))
  rw [Int.tmod_eq_emod_of_nonneg hm.1,← hk]
  exact cTW (dT h1) rfl
theorem modG {p a:Int} (hp:2≤p∧p≤97) (_:-1000000≤a∧a≤1000000):tH p a=some (a % p):=by
 have h1:=Int.tmod_add_mul_tdiv a p
 have h2:=Int.tmod_lt_of_pos a (show 0<p by omega)
 have h3:=Int.lt_tmod_of_pos a (show 0<p by omega)
 have h4:a % p=a.tmod p % p:=by
  conv=>lhs;rw [←h1]
  rw [Int.add_mul_emod_self_left]
 refine bnd (nG (by omega)) (stp ?_)
 by_cases h:a.tmod p<0
 ·
  refine cTW (dT h) (bnd (bC (by omega) (by omega)) ?_)
  rw [h4,← Int.add_emod_right,Int.emod_eq_of_lt (by omega) (by omega)]
 ·
  refine cFW (dF h) ?_
  rw [h4,Int.emod_eq_of_lt (by omega) (by omega)]
theorem sub_mod (v p t:Int):(v+p-t % p) % p=(v-t) % p:=by
 have h:=Int.emod_add_mul_ediv t p
 have:v+p-t % p=(v-t)+p*(1+t / p):=by rw [Int.mul_add,Int.mul_one];omega
 rw [this,Int.add_mul_emod_self_left]
end Go.Proofs.YtngbmcbigcaapaaGreatDoor
namespace Go.Proofs.YtngbmcbigcaapaaGreatDoor
abbrev Rows:=List (List Int)
def gr (m:Rows) (i:Nat):List Int:=m.getD i []
def el (r:List Int) (c:Nat):Int:=r.getD c 0
theorem iE {m:Rows}{i:Nat} (h:i<m.length):m[i]?=some (gr m i):=by unfold gr;rw [List.getD_eq_getElem?_getD,List.getElem?_eq_getElem h];rfl
theorem fI {r:List Int}{c:Nat} (h:c<r.length):r[c]?=some (el r c):=by unfold el;rw [List.getD_eq_getElem?_getD,List.getElem?_eq_getElem h];rfl
theorem xC {m:Rows}{i:Nat} (h:i<m.length):idxO m (i:Int)=some (gr m i):=pA (iE h)
theorem iD {r:List Int}{c:Nat} (h:c<r.length):idxO r (c:Int)=some (el r c):=pA (fI h)
theorem nK {m:Rows}{i:Nat} (h:i<m.length):gr m i∈m:=dE (iE h)
theorem uE {r:List Int}{c:Nat} (h:c<r.length):el r c∈r:=dE (fI h)
theorem eI {m:Rows}{i j:Nat}{r:List Int} (h:i<m.length):gr (m.set i r) j=if i=j then r else gr m j:=by
 unfold gr
 rw [List.getD_eq_getElem?_getD,List.getD_eq_getElem?_getD,List.getElem?_set]
 split
 · rename_i e;subst e;simp
 · rfl
theorem aM {m:Rows}{i:Nat} (h:i<m.length):m.set i (gr m i)=m:=by
 have h2:gr m i=m[i]:=by have:=iE h;rw [List.getElem?_eq_getElem h] at this;exact (Option.some.inj this).symm
 rw [h2,List.set_getElem_self]
def okM (p:Int) (n:Nat) (m:Rows):Prop:=rowsP p n m
theorem zB {p:Int}{n:Nat}{m:Rows} (h:okM p n m){i:Nat} (hi:i<m.length):(gr m i).length=n∧inP p (gr m i):=h _ (nK hi)
theorem fH {p:Int}{n:Nat}{m:Rows} (h:okM p n m){i c:Nat} (hi:i<m.length) (hc:c<n):0≤el (gr m i) c∧el (gr m i) c<p:=by
 have h1:=zB h hi
 exact h1.2 _ (uE (by omega))
theorem zX {p:Int}{n:Nat}{m:Rows} (h:okM p n m){i:Nat}{r:List Int} (hr:r.length=n∧inP p r):okM p n (m.set i r):=by
 intro x hx
 rcases List.mem_or_eq_of_mem_set hx with hx | rfl
 · exact h x hx
 · exact hr
def yC (g:Nat→Int→Int) (r:List Int):List Int:=r.mapIdx g
theorem wR (g:Nat→Int→Int) (r:List Int):(yC g r).length=r.length:=by simp [yC]
theorem Cj_ {p:Int} (hp:2≤p){g:Nat→Int→Int} (hg:∀ j x,∃ y,g j x=y % p) (r:List Int):inP p (yC g r):=by
 intro x hx
 obtain ⟨j,hj,rfl⟩:=List.mem_iff_getElem.1 hx
 simp only [yC,List.getElem_mapIdx]
 obtain ⟨y,hy⟩:=hg j (r[j]'(by simpa [yC] using hj))
 rw [hy];exact kK hp
def part (g:Nat→Int→Int) (r:List Int) (j:Nat):List Int:=(r.take j).mapIdx g++r.drop j
theorem rT (g:Nat→Int→Int) (r:List Int):part g r 0=r:=by simp [part]
theorem eP (g:Nat→Int→Int) (r:List Int):part g r r.length=yC g r:=by simp [part,yC]
theorem dO (g:Nat→Int→Int) (r:List Int) (j:Nat):(part g r j).length=r.length:=by simp [part];omega
theorem uR (g:Nat→Int→Int) (r:List Int){j:Nat} (h:j<r.length):(part g r j)[j]?=some (el r j):=by
 unfold part
 rw [List.getElem?_append_right (by simp;omega)]
 have:j-((r.take j).mapIdx g).length=0:=by simp;omega
 rw [this,List.getElem?_drop,Nat.add_zero,fI h]
theorem cO (g:Nat→Int→Int) (r:List Int){j:Nat} (h:j<r.length):(part g r j).set j (g j (el r j))=part g r (j+1):=by
 have h2:el r j=r[j]:=by have:=fI h;rw [List.getElem?_eq_getElem h] at this;exact (Option.some.inj this).symm
 rw [h2]
 exact Bp_ r g j h
def xF (p k:Int):Nat→Int→Int:=fun _ a=>(a*k) % p
def cE (p f:Int) (w:List Int):Nat→Int→Int:=fun j x=>(x-f*el w j) % p
theorem CK_ {m:Rows}{i j:Nat} (hi:i<m.length) (hj:j<m.length):pK m (i:Int) (j:Int)=some ((m.set i (gr m j)).set j (gr m i)):=by
 unfold pK
 refine bnd (xC hi) (bnd (xC hj) (bnd (nC _ hi) (nC _ (by rw [List.length_set];exact hj))))
def mB (m:Rows) (i j:Nat):Rows:=(m.set i (gr m j)).set j (gr m i)
theorem AE_ {m:Rows}{i:Nat} (h:i<m.length):mB m i i=m:=by
 unfold mB;rw [List.set_set,aM h]
theorem kF (m:Rows) (i j:Nat):(mB m i j).length=m.length:=by simp [mB]
theorem aK {p:Int}{n:Nat}{m:Rows} (h:okM p n m){i j:Nat} (hi:i<m.length) (hj:j<m.length):okM p n (mB m i j):=
 zX (zX h (zB h hj)) (zB h hi)
theorem nL {m:Rows}{i j:Nat} (hi:i<m.length) (hj:j<m.length):gr (mB m i j) i=gr m j:=by
 unfold mB
 rw [eI (by rw [List.length_set];exact hj)]
 split
 · rename_i e;subst e;rfl
 · rw [eI hi,if_pos rfl]
def bI (p k:Int) (m:Rows) (r:Nat):Rows:=m.set r (yC (xF p k) (gr m r))
theorem E3_ (p k:Int) (m:Rows) (r:Nat):(bI p k m r).length=m.length:=by simp [bI]
theorem Fr_ {p k:Int}{n:Nat}{m:Rows} (hp:2≤p) (h:okM p n m){r:Nat} (hr:r<m.length):okM p n (bI p k m r):=
 zX h ⟨by rw [wR];exact (zB h hr).1,Cj_ hp (fun j x=>⟨_,rfl⟩) _⟩
theorem CW_ {p a b:Int} (hp:2≤p∧p≤97) (ha:0≤a∧a<p) (hb:0≤b∧b<p):jG p a b=some ((a*b) % p):=by
 have hm:=aP hp ha hb
 refine bnd (pO (by omega) (by omega)) (bnd (nG (by omega)) ?_)
 rw [Int.tmod_eq_emod_of_nonneg hm.1]
theorem fdSub_ {p a b:Int} (hp:2≤p∧p≤97) (ha:0≤a∧a<p) (hb:0≤b∧b<p):wJ p a b=some ((a+p-b) % p):=by
 refine bnd (bC (by omega) (by omega)) (bnd (gE (by omega) (by omega)) (bnd (nG (by omega)) ?_))
 rw [Int.tmod_eq_emod_of_nonneg (by omega)]
theorem Fp_ {p k:Int}{n:Nat}{m:Rows}{r:Nat} (hp:2≤p∧p≤97) (h:okM p n m) (hr:r<m.length) (hk:0≤k∧k<p) :
  jA (fun (j:Nat) (s:List (List Int))=>
        (idxO s (r:Int)).bind fun a26854=>
        (idxO s (r:Int)).bind fun a26863=>
        (idxO a26863 ((j:Nat):Int)).bind fun a26872=>
        (jG p a26872 k).bind fun y26874=>
        (iA a26854 ((j:Nat):Int) y26874).bind fun a26884=>
        (iA s (r:Int) a26884).bind fun a26887=>
        some a26887) (gr m r).length 0 m=some (bI p k m r):=by
 have hrow:=zB h hr
 have:=kC (n:=(gr m r).length) (fun j=>m.set r (part (xF p k) (gr m r) j)) (f:=fun (j:Nat) (s:List (List Int))=>
        (idxO s (r:Int)).bind fun a26854=>
        (idxO s (r:Int)).bind fun a26863=>
        (idxO a26863 ((j:Nat):Int)).bind fun a26872=>
        (jG p a26872 k).bind fun y26874=>
        (iA a26854 ((j:Nat):Int) y26874).bind fun a26884=>
        (iA s (r:Int) a26884).bind fun a26887=>
        some a26887) (by
  intro j hj
  have hl:r<(m.set r (part (xF p k) (gr m r) j)).length:=by rw [List.length_set];exact hr
  have hg:gr (m.set r (part (xF p k) (gr m r) j)) r=part (xF p k) (gr m r) j:=by rw [eI hr,if_pos rfl]
  have h1:=xC hl
  rw [hg] at h1
  refine bnd h1 (bnd h1 (bnd (pA (uR _ _ hj)) (bnd (CW_ hp (hrow.2 _ (uE hj)) hk) (bnd (nC _ (by rw [dO];exact hj)) (bnd (nC _ hl) ?_)))))
  rw [List.set_set]
  congr 2
  exact cO (xF p k) (gr m r) hj)
 rw [rT,aM hr,eP] at this
 exact this
theorem FK_ {p k:Int}{r:List Int} (hp:2≤p∧p≤97) (h:inP p r) (hk:0≤k∧k<p) :
  jA (fun (j:Nat) (s:List Int)=>
     (idxO s ((j:Nat):Int)).bind fun a137=>
     (qF a137 k).bind fun a140=>
     (kD a140 p).bind fun a142=>
     (iA s ((j:Nat):Int) a142).bind fun a156=>
     some a156) r.length 0 r=some (yC (xF p k) r):=by
 have:=kC (n:=r.length) (fun j=>part (xF p k) r j) (f:=fun (j:Nat) (s:List Int)=>
     (idxO s ((j:Nat):Int)).bind fun a137=>
     (qF a137 k).bind fun a140=>
     (kD a140 p).bind fun a142=>
     (iA s ((j:Nat):Int) a142).bind fun a156=>
     some a156) (by
  intro j hj
  have hm:=aP hp (h _ (uE hj)) hk
  refine bnd (pA (uR _ _ hj)) (bnd (pO (by omega) (by omega)) (bnd (nG (by omega)) (bnd (nC _ (by rw [dO];exact hj)) ?_)))
  rw [Int.tmod_eq_emod_of_nonneg hm.1]
  exact congrArg some (cO (xF p k) r hj))
 rw [rT,eP] at this
 exact this
theorem specSub {p f:Int}{n:Nat}{m:Rows}{r i:Nat} (hp:2≤p∧p≤97) (h:okM p n m) (hr:r<m.length) (hi:i<m.length) (hri:i≠r) (hf:0≤f∧f<p) :
  jA (fun (j:Nat) (s:List (List Int))=>
            (idxO s ((i:Nat):Int)).bind fun a28591=>
            (idxO s ((i:Nat):Int)).bind fun a28600=>
            (idxO s (r:Int)).bind fun a28609=>
            (idxO a28600 ((j:Nat):Int)).bind fun a28618=>
            (idxO a28609 ((j:Nat):Int)).bind fun a28626=>
            (jG p f a28626).bind fun y28628=>
            (wJ p a28618 y28628).bind fun y28631=>
            (iA a28591 ((j:Nat):Int) y28631).bind fun a28641=>
            (iA s ((i:Nat):Int) a28641).bind fun a28644=>
            some a28644) (gr m i).length 0 m=some (m.set i (yC (cE p f (gr m r)) (gr m i))):=by
 have hrow:=zB h hi
 have hrr:=zB h hr
 have:=kC (n:=(gr m i).length) (fun j=>m.set i (part (cE p f (gr m r)) (gr m i) j)) (f:=fun (j:Nat) (s:List (List Int))=>
            (idxO s ((i:Nat):Int)).bind fun a28591=>
            (idxO s ((i:Nat):Int)).bind fun a28600=>
            (idxO s (r:Int)).bind fun a28609=>
            (idxO a28600 ((j:Nat):Int)).bind fun a28618=>
            (idxO a28609 ((j:Nat):Int)).bind fun a28626=>
            (jG p f a28626).bind fun y28628=>
            (wJ p a28618 y28628).bind fun y28631=>
            (iA a28591 ((j:Nat):Int) y28631).bind fun a28641=>
            (iA s ((i:Nat):Int) a28641).bind fun a28644=>
            some a28644) (by
  intro j hj
  have hl:i<(m.set i (part (cE p f (gr m r)) (gr m i) j)).length:=by rw [List.length_set];exact hi
  have hl2:r<(m.set i (part (cE p f (gr m r)) (gr m i) j)).length:=by rw [List.length_set];exact hr
  have hg:gr (m.set i (part (cE p f (gr m r)) (gr m i) j)) i=part (cE p f (gr m r)) (gr m i) j:=by rw [eI hi,if_pos rfl]
  have hg2:gr (m.set i (part (cE p f (gr m r)) (gr m i) j)) r=gr m r:=by rw [eI hi,if_neg hri]
  have h1:=xC hl
  have h2:=xC hl2
  rw [hg] at h1
  rw [hg2] at h2
  have hjr:j<(gr m r).length:=by omega
  have hm:=kK (p:=p) (x:=f*el (gr m r) j) hp.1
  refine bnd h1 (bnd h1 (bnd h2 (bnd (pA (uR _ _ hj)) (bnd (iD hjr) (bnd (CW_ hp hf (hrr.2 _ (uE hjr))) (bnd (fdSub_ hp (hrow.2 _ (uE hj)) hm) (bnd (nC _ (by rw [dO];exact hj)) (bnd (nC _ hl) ?_))))))))
  rw [List.set_set,sub_mod]
  congr 2
  exact cO (cE p f (gr m r)) (gr m i) hj)
 rw [rT,aM hi,eP] at this
 exact this
theorem implSub {p f:Int}{v w:List Int} (hp:2≤p∧p≤97) (hv:inP p v) (hw:inP p w) (hl:v.length=w.length) (hf:0≤f∧f<p):tV p v (0-f) w=some (yC (cE p f w) v):=by
 have:=kC (n:=w.length) (fun j=>part (cE p f w) v j) (f:=fun (k3:Nat) (s72:List Int)=>
   (idxO w ((k3:Nat):Int)).bind fun a87=>
   (idxO s72 ((k3:Nat):Int)).bind fun a95=>
   (qF (0-f) a87).bind fun a97=>
   (uA a95 a97).bind fun a99=>
   (tH p a99).bind fun y101=>
   (iA s72 ((k3:Nat):Int) y101).bind fun a110=>
   some a110) (by
  intro j hj
  have hjv:j<v.length:=by omega
  have h1:=aP hp hf (hw _ (uE hj))
  have h2:=hv _ (uE hjv)
  have h3:(0-f)*el w j = -(f*el w j):=by rw [Int.zero_sub,Int.neg_mul]
  refine bnd (iD hj) (bnd (pA (uR _ _ hjv)) (bnd (pO (by omega) (by omega)) (bnd (bC (by omega) (by omega)) (bnd (modG hp (by omega)) (bnd (nC _ (by rw [dO];exact hjv)) ?_)))))
  rw [h3,← Int.sub_eq_add_neg]
  exact congrArg some (cO (cE p f w) v hjv))
 rw [rT,← hl,eP] at this
 rw [hl] at this
 exact bnd this rfl
end Go.Proofs.YtngbmcbigcaapaaGreatDoor
namespace Go.Proofs.YtngbmcbigcaapaaGreatDoor
def xB {α:Type} (g:Nat→α→α) (l:List α) (j:Nat):List α:=(l.take j).mapIdx g++l.drop j
theorem partG0 {α:Type} (g:Nat→α→α) (l:List α):xB g l 0=l:=by simp [xB]
theorem yO {α:Type} (g:Nat→α→α) (l:List α):xB g l l.length=l.mapIdx g:=by simp [xB]
theorem lG {α:Type} (g:Nat→α→α) (l:List α) (j:Nat):(xB g l j).length=l.length:=by simp [xB];omega
theorem FA_ {α:Type} (g:Nat→α→α) (l:List α) (j k:Nat):(xB g l j)[k]?=if k<j then l[k]?.map (g k) else l[k]?:=by
 unfold xB
 by_cases h:k<((l.take j).mapIdx g).length
 ·
  rw [List.getElem?_append_left h]
  have h2:k<j:=by simp at h;omega
  rw [if_pos h2,List.getElem?_mapIdx,List.getElem?_take,if_pos h2]
 ·
  rw [List.getElem?_append_right (by omega)]
  have h1:¬k<min j l.length:=by simpa using h
  by_cases h2:k<j
  ·
   rw [if_pos h2,List.getElem?_eq_none (by omega:l.length≤k)]
   rw [List.getElem?_drop,List.getElem?_eq_none (by simp;omega)];rfl
  ·
   rw [if_neg h2,List.getElem?_drop]
   by_cases h3:l.length≤j
   · rw [List.getElem?_eq_none (by simp;omega),List.getElem?_eq_none (by omega)]
   · congr 1;simp;omega
theorem jK {g:Nat→List Int→List Int}{m:Rows}{j k:Nat} (hk:k<m.length):gr (xB g m j) k=if k<j then g k (gr m k) else gr m k:=by
 have h1:=iE (m:=xB g m j) (i:=k) (by rw [lG];exact hk)
 rw [FA_,iE hk] at h1
 split at h1
 · rename_i h;rw [if_pos h];exact (Option.some.inj h1).symm
 · rename_i h;rw [if_neg h];exact (Option.some.inj h1).symm
theorem iR {g:Nat→List Int→List Int}{m:Rows}{j:Nat} (hj:j<m.length):(xB g m j).set j (g j (gr m j))=xB g m (j+1):=by
 have h2:gr m j=m[j]:=by have:=iE hj;rw [List.getElem?_eq_getElem hj] at this;exact (Option.some.inj this).symm
 rw [h2]
 exact Bp_ m g j hj
def scanN (m:Rows) (c:Nat):Nat→Nat→Nat
 | 0,k=>k
 | d+1,k=>if el (gr m k) c=0 then scanN m c d (k+1) else k
theorem cH (m:Rows) (c:Nat):∀ (d k:Nat),k+d=m.length→k≤scanN m c d k∧scanN m c d k≤m.length∧(scanN m c d k<m.length→el (gr m (scanN m c d k)) c≠0)
 | 0,k,h=>⟨Nat.le_refl _,by simp only [scanN];omega,fun h2=>by simp only [scanN] at h2;omega⟩
 | d+1,k,h=>by
  unfold scanN
  split
  ·
   obtain ⟨h1,h2,h3⟩:=cH m c d (k+1) (by omega)
   exact ⟨by omega,h2,h3⟩
  ·
   rename_i hne
   exact ⟨Nat.le_refl _,by omega,fun _=>hne⟩
theorem scan_ {f:Int→Option (Int⊕Int)}{m:Rows}{c:Nat} (hf:∀ k:Nat,k<m.length→f (k:Int)=some (if el (gr m k) c=0 then .inl ((k:Int)+1) else .inr (k:Int))) (he:f (m.length:Int)=some (.inr (m.length:Int))) :
  ∀ (d k:Nat),k+d=m.length→tB f (k:Int)=some ((scanN m c d k:Nat):Int)
 | 0,k,h=>by
  have:k=m.length:=by omega
  subst this
  rw [sE he];rfl
 | d+1,k,h=>by
  have h1:=hf k (by omega)
  unfold scanN
  by_cases h0:el (gr m k) c=0
  ·
   rw [if_pos h0] at h1 ⊢
   rw [kG h1]
   exact scan_ hf he d (k+1) (by omega)
  ·
   rw [if_neg h0] at h1 ⊢
   exact sE h1
def jB (p:Int) (c r:Nat) (m a:Rows):Nat→List Int→List Int:=fun i row=>if i=r∨el (gr m i) c=0 then row else yC (cE p (el (gr m i) c) (gr a r)) row
def oM (p:Int) (c r:Nat) (m a:Rows):Rows:=a.mapIdx (jB p c r m a)
theorem FQ_ (p:Int) (c r:Nat) (m a:Rows):(oM p c r m a).length=a.length:=by simp [oM]
theorem BT_ {p:Int}{c r:Nat}{m a:Rows}{i:Nat} (h:i<a.length):gr (oM p c r m a) i=jB p c r m a i (gr a i):=by
 have:=jK (g:=jB p c r m a) (j:=a.length) h
 rw [yO,if_pos h] at this
 exact this
theorem qX {p:Int}{c r n:Nat}{m a:Rows} (hp:2≤p){i:Nat}{row:List Int} (hr:row.length=n∧inP p row):(jB p c r m a i row).length=n∧inP p (jB p c r m a i row):=by
 unfold jB
 split
 · exact hr
 · exact ⟨by rw [wR];exact hr.1,Cj_ hp (fun j x=>⟨_,rfl⟩) _⟩
theorem Gm_ {p:Int}{c r n:Nat}{m a:Rows} (hp:2≤p) (h:okM p n a):okM p n (oM p c r m a):=by
 intro x hx
 obtain ⟨i,hi,rfl⟩:=List.mem_iff_getElem.1 hx
 unfold oM at hi ⊢
 rw [List.getElem_mapIdx]
 have hi':i<a.length:=by simpa using hi
 exact qX hp (h _ (List.getElem_mem hi'))
def eB (p:Int) (c:Nat) (m a:Rows) (r k:Nat):Rows:=bI p (rD p (el (gr (mB m r k) r) c)) (mB a r k) r
def gB (p:Int) (c:Nat) (m a:Rows) (r k:Nat):Rows:=oM p c r (eB p c m m r k) (eB p c m a r k)
theorem oL (p:Int) (c:Nat) (m a:Rows) (r k:Nat):(eB p c m a r k).length=a.length:=by unfold eB;rw [E3_,kF]
theorem nD (p:Int) (c:Nat) (m a:Rows) (r k:Nat):(gB p c m a r k).length=a.length:=by unfold gB;rw [FQ_,oL]
theorem kS {p:Int}{c n:Nat}{m a:Rows}{r k:Nat} (hp:2≤p) (h:okM p n a) (hr:r<a.length) (hk:k<a.length):okM p n (eB p c m a r k):=
 Fr_ hp (aK h hr hk) (by rw [kF];exact hr)
theorem uF {p:Int}{c n:Nat}{m a:Rows}{r k:Nat} (hp:2≤p) (h:okM p n a) (hr:r<a.length) (hk:k<a.length):okM p n (gB p c m a r k):=Gm_ hp (kS hp h hr hk)
def lB (p:Int):Nat→Nat→Rows→Rows→Nat→Rows×Rows×Nat
 | 0,_,m,a,r=>(m,a,r)
 | d+1,c,m,a,r=>
  if r<m.length then
   if scanN m c (m.length-r) r=m.length then lB p d (c+1) m a r
   else lB p d (c+1) (gB p c m m r (scanN m c (m.length-r) r)) (gB p c m a r (scanN m c (m.length-r) r)) (r+1)
  else (m,a,r)
noncomputable def aO (p n:Int) (st:Rows×Int×Int):Option ((Rows×Int×Int)⊕(Rows×Int)):=
   ((some (decide (st.2.2<n))).bind fun a23919=>
    cond a23919
    ((some (decide (st.2.1<((st.1.length:Nat):Int)))).bind fun a23923=>
     some a23923)
    (some false)).bind fun (s23913:Bool)=>
   cond s23913
   (((tB (fun (s26612:Int)=>
       ((some (decide (s26612<((st.1.length:Nat):Int)))).bind fun a26650=>
        cond a26650
        ((idxO st.1 s26612).bind fun a26660=>
         (idxO a26660 st.2.2).bind fun a26669=>
         (some (decide (a26669=0))).bind fun a26671=>
         some a26671)
        (some false)).bind fun (s26644:Bool)=>
       cond s26644
       ((uA s26612 1).bind fun a26678=>
        some (.inl a26678))
       (some (.inr s26612))) st.2.1).bind fun (s26486:Int)=>
     (some (decide (s26486=((st.1.length:Nat):Int)))).bind fun a26682=>
     cond a26682
     (some (st.1,st.2.1))
     ((idxO st.1 st.2.1).bind fun _=>
      (idxO st.1 s26486).bind fun _=>
      (pK st.1 st.2.1 s26486).bind fun a26717=>
      (idxO a26717 st.2.1).bind fun a26725=>
      (idxO a26725 st.2.2).bind fun a26734=>
      (wQ p a26734).bind fun y26736=>
      (idxO a26717 st.2.1).bind fun a26745=>
      (jA (fun (k26749:Nat) (s26838:List (List Int))=>
        (idxO s26838 st.2.1).bind fun a26854=>
        (idxO s26838 st.2.1).bind fun a26863=>
        (idxO a26863 ((k26749:Nat):Int)).bind fun a26872=>
        (jG p a26872 y26736).bind fun y26874=>
        (iA a26854 ((k26749:Nat):Int) y26874).bind fun a26884=>
        (iA s26838 st.2.1 a26884).bind fun a26887=>
        some a26887) a26745.length 0 a26717).bind fun (s26891:List (List Int))=>
      (jA (fun (k26893:Nat) (s28062:List (List Int))=>
        (((some (decide (((k26893:Nat):Int)=st.2.1))).bind fun a28393=>
          cond a28393
          (some true)
          ((idxO s28062 ((k26893:Nat):Int)).bind fun a28402=>
           (idxO a28402 st.2.2).bind fun a28411=>
           (some (decide (a28411=0))).bind fun a28413=>
           some a28413)).bind fun (s28387:Bool)=>
         cond s28387
         (some s28062)
         ((idxO s28062 ((k26893:Nat):Int)).bind fun a28425=>
          (idxO a28425 st.2.2).bind fun a28434=>
          (idxO s28062 ((k26893:Nat):Int)).bind fun a28442=>
          (jA (fun (k28446:Nat) (s28575:List (List Int))=>
            (idxO s28575 ((k26893:Nat):Int)).bind fun a28591=>
            (idxO s28575 ((k26893:Nat):Int)).bind fun a28600=>
            (idxO s28575 st.2.1).bind fun a28609=>
            (idxO a28600 ((k28446:Nat):Int)).bind fun a28618=>
            (idxO a28609 ((k28446:Nat):Int)).bind fun a28626=>
            (jG p a28434 a28626).bind fun y28628=>
            (wJ p a28618 y28628).bind fun y28631=>
            (iA a28591 ((k28446:Nat):Int) y28631).bind fun a28641=>
            (iA s28575 ((k26893:Nat):Int) a28641).bind fun a28644=>
            some a28644) a28442.length 0 s28062).bind fun (s28648:List (List Int))=>
          some s28648)).bind fun (s28358:List (List Int))=>
        some s28358) s26891.length 0 s26891).bind fun (s28655:List (List Int))=>
      (uA st.2.1 1).bind fun a28657=>
      some (s28655,a28657))).bind fun (s26292:List (List Int)×Int)=>
    (uA st.2.2 1).bind fun a28662=>
    some (.inl (s26292.1,s26292.2,a28662)))
   (some (.inr (st.1,st.2.1)))
theorem Fo_ {p:Int}{n N c r:Nat}{m:Rows} (hf:fdB p=true) (h:okM p N m) (hn:n≤N) (hN:N≤1048576) (hL:m.length≤1048576) (hr:r<m.length) (hc:c<n) :
  aO p (n:Int) (m,(r:Int),(c:Int))=some (.inl (if scanN m c (m.length-r) r=m.length then (m,(r:Int),(c:Int)+1) else (gB p c m m r (scanN m c (m.length-r) r),(r:Int)+1,(c:Int)+1))):=by
 have hp:=aC hf
 unfold aO
 dsimp only
 refine bnd (a:=true) (stp (cTW (dT (by omega)) (stp (by rw [dT (by omega)])))) (cTW rfl ?_)
 have hsc:∀ {f:Int→Option (Int⊕Int)},(∀ k:Nat,k<m.length→f (k:Int)=some (if el (gr m k) c=0 then .inl ((k:Int)+1) else .inr (k:Int)))→f (m.length:Int)=some (.inr (m.length:Int))→tB f (r:Int)=some ((scanN m c (m.length-r) r:Nat):Int):=fun h1 h2=>scan_ h1 h2 _ _ (by omega)
 obtain ⟨s1,s2,s3⟩:=cH m c (m.length-r) r (by omega)
 generalize scanN m c (m.length-r) r=k at hsc s1 s2 s3 ⊢
 refine bnd (a:=if k=m.length then (m,(r:Int)) else (gB p c m m r k,(r:Int)+1)) ?_ ?_
 ·
  refine bnd (hsc ?_ ?_) (stp ?_)
  ·
   intro i hi
   have hrow:=zB h hi
   refine bnd (a:=decide (el (gr m i) c=0)) (stp (cTW (dT (by omega)) (bnd (xC hi) (bnd (iD (by omega)) rfl)))) ?_
   by_cases h0:el (gr m i) c=0
   · rw [if_pos h0];exact cTW (dT h0) (bnd (bC (by omega) (by omega)) rfl)
   · rw [if_neg h0];exact cFW (dF h0) rfl
  · exact bnd (a:=false) (stp (cFW (dF (by omega)) rfl)) (cFW rfl rfl)
  ·
   by_cases hk:k=m.length
   · rw [if_pos hk];exact cTW (dT (by omega)) rfl
   ·
    rw [if_neg hk]
    have hkl:k<m.length:=by omega
    have hne:=s3 hkl
    refine cFW (dF (by omega)) ?_
    refine bnd (xC hr) (bnd (xC hkl) (bnd (CK_ hr hkl) ?_))
    have h1:okM p N (mB m r k):=aK h hr hkl
    have hr1:r<(mB m r k).length:=by rw [kF];exact hr
    have hrow:=zB h1 hr1
    have hel:=fH h1 hr1 (show c<N by omega)
    have hnz:el (gr (mB m r k) r) c≠0:=by rw [nL hr hkl];exact hne
    obtain ⟨_,i1,i2,i3⟩:=gO hf (x:=el (gr (mB m r k) r) c) ⟨by omega,hel.2⟩
    change (idxO (mB m r k) (r:Int)).bind _=_
    refine bnd (xC hr1) (bnd (iD (by omega)) (bnd (fdInv_ hf ⟨by omega,hel.2⟩) (bnd (xC hr1) ?_)))
    refine bnd (Fp_ hp h1 hr1 ⟨i2,i3⟩) ?_
    change (jA _ (eB p c m m r k).length 0 (eB p c m m r k)).bind _=_
    have h2:okM p N (eB p c m m r k):=kS hp.1 h hr hkl
    have hl2:(eB p c m m r k).length=m.length:=oL p c m m r k
    have hr2:r<(eB p c m m r k).length:=by omega
    have:=kC (n:=(eB p c m m r k).length) (fun i=>xB (jB p c r (eB p c m m r k) (eB p c m m r k)) (eB p c m m r k) i) (f:=(fun (k26893:Nat) (s28062:List (List Int))=>
        (((some (decide (((k26893:Nat):Int)=(r:Int)))).bind fun a28393=>
          cond a28393
          (some true)
          ((idxO s28062 ((k26893:Nat):Int)).bind fun a28402=>
           (idxO a28402 (c:Int)).bind fun a28411=>
           (some (decide (a28411=0))).bind fun a28413=>
           some a28413)).bind fun (s28387:Bool)=>
         cond s28387
         (some s28062)
         ((idxO s28062 ((k26893:Nat):Int)).bind fun a28425=>
          (idxO a28425 (c:Int)).bind fun a28434=>
          (idxO s28062 ((k26893:Nat):Int)).bind fun a28442=>
          (jA (fun (k28446:Nat) (s28575:List (List Int))=>
            (idxO s28575 ((k26893:Nat):Int)).bind fun a28591=>
            (idxO s28575 ((k26893:Nat):Int)).bind fun a28600=>
            (idxO s28575 (r:Int)).bind fun a28609=>
            (idxO a28600 ((k28446:Nat):Int)).bind fun a28618=>
            (idxO a28609 ((k28446:Nat):Int)).bind fun a28626=>
            (jG p a28434 a28626).bind fun y28628=>
            (wJ p a28618 y28628).bind fun y28631=>
            (iA a28591 ((k28446:Nat):Int) y28631).bind fun a28641=>
            (iA s28575 ((k26893:Nat):Int) a28641).bind fun a28644=>
            some a28644) a28442.length 0 s28062).bind fun (s28648:List (List Int))=>
          some s28648)).bind fun (s28358:List (List Int))=>
        some s28358)) ?_
    ·
     rw [partG0,yO] at this
     exact bnd this (bnd (bC (by omega) (by omega)) rfl)
    ·
     generalize eB p c m m r k=w at h2 hl2 hr2
     intro i hi
     have hg1:gr (xB (jB p c r w w) w i) i=gr w i:=by rw [jK hi,if_neg (by omega)]
     have hg2:gr (xB (jB p c r w w) w i) r=gr w r:=by
      rw [jK hr2]
      split
      · unfold jB;rw [if_pos (Or.inl rfl)]
      · rfl
     have hrow2:=zB h2 hi
     have hli:i<(xB (jB p c r w w) w i).length:=by rw [lG];exact hi
     have hlr:r<(xB (jB p c r w w) w i).length:=by rw [lG];exact hr2
     have hok:okM p N (xB (jB p c r w w) w i):=by
      intro x hx
      obtain ⟨q,hq,rfl⟩:=List.mem_iff_getElem.1 hx
      have hq':q<w.length:=by rw [lG] at hq;exact hq
      have h5:=iE (m:=xB (jB p c r w w) w i) (i:=q) hq
      rw [List.getElem?_eq_getElem hq] at h5
      rw [Option.some.inj h5,jK hq']
      split
      · exact qX hp.1 (zB h2 hq')
      · exact zB h2 hq'
     have hset:=iR (g:=jB p c r w w) (m:=w) hi
     have i1:=xC hli
     rw [hg1] at i1
     by_cases hir:i=r
     ·
      refine bnd (a:=xB (jB p c r w w) w (i+1)) (bnd (a:=true) (stp (cTW (dT (by omega)) rfl)) (cTW rfl ?_)) rfl
      rw [←hset]
      have:jB p c r w w i (gr w i)=gr w i:=by unfold jB;rw [if_pos (Or.inl hir)]
      rw [this,← hg1,aM hli]
     ·
      by_cases h0:el (gr w i) c=0
      ·
       refine bnd (a:=xB (jB p c r w w) w (i+1)) (bnd (a:=true) (stp (cFW (dF (by omega)) (bnd i1 (bnd (iD (by omega)) (stp (by rw [dT h0])))))) (cTW rfl ?_)) rfl
       rw [←hset]
       have:jB p c r w w i (gr w i)=gr w i:=by unfold jB;rw [if_pos (Or.inr h0)]
       rw [this,← hg1,aM hli]
      ·
       refine bnd (a:=xB (jB p c r w w) w (i+1)) (bnd (a:=false) (stp (cFW (dF (by omega)) (bnd i1 (bnd (iD (by omega)) (stp (by rw [dF h0])))))) (cFW rfl ?_)) rfl
       refine bnd i1 (bnd (iD (by omega)) (bnd i1 ?_))
       have hfe:=fH h2 hi (show c<N by omega)
       have:=specSub (f:=el (gr w i) c) hp hok hlr hli hir hfe
       rw [hg1,hg2] at this
       refine bnd this ?_
       rw [←hset]
       unfold jB
       rw [if_neg (by intro h;rcases h with h | h;exact hir h;exact h0 h)]
 ·
  by_cases hk:k=m.length
  · rw [if_pos hk,if_pos hk];exact bnd (bC (by omega) (by omega)) rfl
  · rw [if_neg hk,if_neg hk];exact bnd (bC (by omega) (by omega)) rfl
theorem aX {p:Int}{n N:Nat} (hf:fdB p=true) (hn:n≤N) (hN:N≤1048576):∀ (d c:Nat) (m a:Rows) (r:Nat),c+d=n→okM p N m→m.length≤1048576→r≤m.length→tB (aO p (n:Int)) (m,(r:Int),(c:Int))=some ((lB p d c m a r).1,((lB p d c m a r).2.2:Int))
 | 0,c,m,a,r,hc,h,hL,hr=>by
  refine sE ?_
  unfold aO
  exact bnd (a:=false) (stp (cFW (dF (by dsimp only;omega)) rfl)) (cFW rfl rfl)
 | d+1,c,m,a,r,hc,h,hL,hr=>by
  unfold lB
  by_cases hrl:r<m.length
  ·
   rw [if_pos hrl]
   have hs:=Fo_ hf h hn hN hL hrl (show c<n by omega)
   obtain ⟨s1,s2,s3⟩:=cH m c (m.length-r) r (by omega)
   split
   ·
    rename_i hk
    rw [if_pos hk] at hs
    rw [kG hs]
    exact aX hf hn hN d (c+1) m a r (by omega) h hL hr
   ·
    rename_i hk
    rw [if_neg hk] at hs
    rw [kG hs]
    have hkl:scanN m c (m.length-r) r<m.length:=by omega
    exact aX hf hn hN d (c+1) _ _ (r+1) (by omega) (uF (aC hf).1 h hrl hkl) (by rw [nD];exact hL) (by rw [nD];omega)
  ·
   rw [if_neg hrl]
   refine sE ?_
   unfold aO
   exact bnd (a:=false) (stp (cTW (dT (by dsimp only;omega)) (stp (by rw [dF (by dsimp only;omega)])))) (cFW rfl rfl)
end Go.Proofs.YtngbmcbigcaapaaGreatDoor
namespace Go.Proofs.YtngbmcbigcaapaaGreatDoor
theorem AO_ {p:Int}{l:Rows}{r k:Nat} (hr:r<l.length) (hk:k<l.length):tK (0,(r:Int),(k:Int),0) p l=some (mB l r k):=by
 refine stp (cTW rfl ?_)
 exact bnd (xC hk) (bnd (xC hr) (bnd (CK_ hr hk) rfl))
theorem Bd_ {p x:Int}{n:Nat}{l:Rows}{r:Nat} (hf:fdB p=true) (h:okM p n l) (hr:r<l.length) (hx:0<x∧x<p):tK (1,(r:Int),0,x) p l=some (bI p (rD p x) l r):=by
 have hp:=aC hf
 obtain ⟨i0,_,i2,i3⟩:=gO hf hx
 refine stp (cFW rfl (stp (cTW rfl ?_)))
 exact bnd i0 (bnd (xC hr) (bnd (FK_ hp (zB h hr).2 ⟨i2,i3⟩) (bnd (nC _ hr) rfl)))
theorem Bc_ {p f:Int}{n:Nat}{l:Rows}{i r:Nat} (hp:2≤p∧p≤97) (h:okM p n l) (hi:i<l.length) (hr:r<l.length) (hir:i≠r) (hf:0≤f∧f<p):tK (2,(i:Int),(r:Int),f) p l=some (l.set i (yC (cE p f (gr l r)) (gr l i))):=by
 have h1:=zB h hi
 have h2:=zB h hr
 refine stp (cFW rfl (stp (cFW rfl (stp (cTW rfl ?_)))))
 refine bnd (xC hi) (bnd (rK ⟨by dsimp only;omega,by dsimp only;omega⟩) (bnd (xC hr) (bnd (implSub hp h1.2 h2.2 (by omega) hf) (bnd (a:=()) ?_ (bnd (nC _ hi) rfl)))))
 unfold neqO
 rw [if_neg (by dsimp only;omega)]
theorem Fv_ {p:Int}{m a:Rows}{r k:Nat} (hr:r<m.length) (hk:k<m.length) (hl:a.length=m.length):iG (0,(r:Int),(k:Int),0) p m a=some (mB m r k,mB a r k):=by
 refine stp ?_
 by_cases h:k=r
 ·
  subst h
  rw [AE_ hr,AE_ (by omega)]
  exact cTW (dT rfl) rfl
 ·
  refine cFW (dF ?_) (bnd (AO_ hr hk) (bnd (AO_ (by omega) (by omega)) rfl))
  intro e
  simp only [List.cons.injEq] at e
  exact h (by have:=e.2.2.1;omega)
theorem F6_ {p x:Int}{n q:Nat}{m a:Rows}{r:Nat} (hf:fdB p=true) (h:okM p n m) (ha:okM p q a) (hr:r<m.length) (hl:a.length=m.length) (hx:0<x∧x<p):iG (1,(r:Int),0,x) p m a=some (bI p (rD p x) m r,bI p (rD p x) a r):=by
 refine stp (cFW (dF ?_) (bnd (Bd_ hf h hr hx) (bnd (Bd_ hf ha (by omega) hx) rfl)))
 intro e
 simp only [List.cons.injEq] at e
 have:=e.1;omega
theorem F5_ {p f:Int}{n q:Nat}{m a:Rows}{i r:Nat} (hp:2≤p∧p≤97) (h:okM p n m) (ha:okM p q a) (hi:i<m.length) (hr:r<m.length) (hl:a.length=m.length) (hir:i≠r) (hf:0≤f∧f<p) :
  iG (2,(i:Int),(r:Int),f) p m a=some (m.set i (yC (cE p f (gr m r)) (gr m i)),a.set i (yC (cE p f (gr a r)) (gr a i))):=by
 refine stp (cFW (dF ?_) (bnd (Bc_ hp h hi hr hir hf) (bnd (Bc_ hp ha (by omega) (by omega) hir hf) rfl)))
 intro e
 simp only [List.cons.injEq] at e
 have:=e.1;omega
theorem Cg_ {p:Int}{c r n:Nat}{m a:Rows} (hp:2≤p) (h:okM p n a) (i:Nat):okM p n (xB (jB p c r m a) a i):=by
 intro x hx
 obtain ⟨q,hq,rfl⟩:=List.mem_iff_getElem.1 hx
 have hq':q<a.length:=by rw [lG] at hq;exact hq
 have h5:=iE (m:=xB (jB p c r m a) a i) (i:=q) hq
 rw [List.getElem?_eq_getElem hq] at h5
 rw [Option.some.inj h5,jK hq']
 split
 · exact qX hp (zB h hq')
 · exact zB h hq'
theorem jR {p:Int}{c r:Nat}{m a:Rows}{i:Nat} (hi:i<a.length):gr (xB (jB p c r m a) a i) i=gr a i:=by rw [jK hi,if_neg (by omega)]
theorem Bw_ {p:Int}{c r:Nat}{m a:Rows} (i:Nat) (hr:r<a.length):gr (xB (jB p c r m a) a i) r=gr a r:=by
 rw [jK hr]
 split
 · unfold jB;rw [if_pos (Or.inl rfl)]
 · rfl
theorem gR {p:Int}{c r:Nat}{m a:Rows}{i:Nat} (hi:i<a.length) (h:i=r∨el (gr m i) c=0):xB (jB p c r m a) a (i+1)=xB (jB p c r m a) a i:=by
 rw [←iR hi]
 have h1:jB p c r m a i (gr a i)=gr a i:=by unfold jB;rw [if_pos h]
 rw [h1]
 have h2:=aM (m:=xB (jB p c r m a) a i) (i:=i) (by rw [lG];exact hi)
 rw [jR hi] at h2
 exact h2
theorem Bv_ {p:Int}{c r:Nat}{m a:Rows}{i:Nat} (hi:i<a.length) (hir:i≠r) (h0:el (gr m i) c≠0):xB (jB p c r m a) a (i+1)=(xB (jB p c r m a) a i).set i (yC (cE p (el (gr m i) c) (gr a r)) (gr a i)):=by
 rw [←iR hi]
 have h1:jB p c r m a i (gr a i)=yC (cE p (el (gr m i) c) (gr a r)) (gr a i):=by unfold jB;rw [if_neg (by intro h;rcases h with h | h;exact hir h;exact h0 h)]
 rw [h1]
noncomputable def iO (p n:Int) (st:Rows×Rows×Int×Int):Option ((Rows×Rows×Int×Int)⊕(Rows×Rows×Int)):=
   ((some (decide (st.2.2.1<n))).bind fun a6807=>
    cond a6807
    ((some (decide (st.2.2.2<((st.1.length:Nat):Int)))).bind fun a6811=>
     some a6811)
    (some false)).bind fun (s6801:Bool)=>
   cond s6801
   (((tB (fun (s7797:Int)=>
       ((some (decide (s7797<((st.1.length:Nat):Int)))).bind fun a7835=>
        cond a7835
        ((idxO st.1 s7797).bind fun a7845=>
         (idxO a7845 st.2.2.1).bind fun a7854=>
         (some (decide (a7854=0))).bind fun a7856=>
         some a7856)
        (some false)).bind fun (s7829:Bool)=>
       cond s7829
       ((uA s7797 1).bind fun a7863=>
        some (.inl a7863))
       (some (.inr s7797))) st.2.2.2).bind fun (s7671:Int)=>
     (some (decide (s7671=((st.1.length:Nat):Int)))).bind fun a7867=>
     cond a7867
     (some (st.1,st.2.1,st.2.2.2))
     ((iG (0,st.2.2.2,s7671,0) p st.1 st.2.1).bind fun y7870=>
      (idxO y7870.1 st.2.2.2).bind fun a7879=>
      (idxO a7879 st.2.2.1).bind fun a7888=>
      (iG (1,st.2.2.2,0,a7888) p y7870.1 y7870.2).bind fun y7890=>
      (jA (fun (k7893:Nat) (s8050:List (List Int)×List (List Int))=>
        ((some (!decide (((k7893:Nat):Int)=st.2.2.2))).bind fun a8088=>
         cond a8088
         ((idxO s8050.1 ((k7893:Nat):Int)).bind fun a8098=>
          (idxO a8098 st.2.2.1).bind fun a8107=>
          (some (!decide (a8107=0))).bind fun a8109=>
          some a8109)
         (some false)).bind fun (s8082:Bool)=>
        cond s8082
        ((idxO s8050.1 ((k7893:Nat):Int)).bind fun a8121=>
         (idxO a8121 st.2.2.1).bind fun a8130=>
         (iG (2,((k7893:Nat):Int),st.2.2.2,a8130) p s8050.1 s8050.2).bind fun y8132=>
         some (y8132.1,y8132.2))
        (some (s8050.1,s8050.2))) y7890.1.length 0 (y7890.1,y7890.2)).bind fun (s8137:List (List Int)×List (List Int))=>
      (uA st.2.2.2 1).bind fun a8139=>
      some (s8137.1,s8137.2,a8139))).bind fun (s7477:List (List Int)×List (List Int)×Int)=>
    (uA st.2.2.1 1).bind fun a8144=>
    some (.inl (s7477.1,s7477.2.1,a8144,s7477.2.2)))
   (some (.inr (st.1,st.2.1,st.2.2.2)))
theorem FJ_ {p:Int}{n N q c r:Nat}{m a:Rows} (hf:fdB p=true) (h:okM p N m) (ha:okM p q a) (hn:n≤N) (hN:N≤1048576) (hL:m.length≤1048576) (hl:a.length=m.length) (hr:r<m.length) (hc:c<n) :
  iO p (n:Int) (m,a,(c:Int),(r:Int))=some (.inl (if scanN m c (m.length-r) r=m.length then (m,a,(c:Int)+1,(r:Int)) else (gB p c m m r (scanN m c (m.length-r) r),gB p c m a r (scanN m c (m.length-r) r),(c:Int)+1,(r:Int)+1))):=by
 have hp:=aC hf
 unfold iO
 dsimp only
 refine bnd (a:=true) (stp (cTW (dT (by omega)) (stp (by rw [dT (by omega)])))) (cTW rfl ?_)
 have hsc:∀ {f:Int→Option (Int⊕Int)},(∀ k:Nat,k<m.length→f (k:Int)=some (if el (gr m k) c=0 then .inl ((k:Int)+1) else .inr (k:Int)))→f (m.length:Int)=some (.inr (m.length:Int))→tB f (r:Int)=some ((scanN m c (m.length-r) r:Nat):Int):=fun h1 h2=>scan_ h1 h2 _ _ (by omega)
 obtain ⟨s1,s2,s3⟩:=cH m c (m.length-r) r (by omega)
 generalize scanN m c (m.length-r) r=k at hsc s1 s2 s3 ⊢
 refine bnd (a:=if k=m.length then (m,a,(r:Int)) else (gB p c m m r k,gB p c m a r k,(r:Int)+1)) ?_ ?_
 ·
  refine bnd (hsc ?_ ?_) (stp ?_)
  ·
   intro i hi
   have hrow:=zB h hi
   refine bnd (a:=decide (el (gr m i) c=0)) (stp (cTW (dT (by omega)) (bnd (xC hi) (bnd (iD (by omega)) rfl)))) ?_
   by_cases h0:el (gr m i) c=0
   · rw [if_pos h0];exact cTW (dT h0) (bnd (bC (by omega) (by omega)) rfl)
   · rw [if_neg h0];exact cFW (dF h0) rfl
  · exact bnd (a:=false) (stp (cFW (dF (by omega)) rfl)) (cFW rfl rfl)
  ·
   by_cases hk:k=m.length
   · rw [if_pos hk];exact cTW (dT (by omega)) rfl
   ·
    rw [if_neg hk]
    have hkl:k<m.length:=by omega
    have hne:=s3 hkl
    refine cFW (dF (by omega)) ?_
    have h1:okM p N (mB m r k):=aK h hr hkl
    have h1a:okM p q (mB a r k):=aK ha (by omega) (by omega)
    have hr1:r<(mB m r k).length:=by rw [kF];exact hr
    have hrow:=zB h1 hr1
    have hel:=fH h1 hr1 (show c<N by omega)
    have hnz:el (gr (mB m r k) r) c≠0:=by rw [nL hr hkl];exact hne
    refine bnd (Fv_ hr hkl hl) ?_
    dsimp only
    refine bnd (xC hr1) (bnd (iD (by omega)) (bnd (F6_ hf h1 h1a hr1 (by rw [kF,kF];exact hl) ⟨by omega,hel.2⟩) ?_))
    change (jA _ (eB p c m m r k).length 0 (eB p c m m r k,eB p c m a r k)).bind _=_
    have h2:okM p N (eB p c m m r k):=kS hp.1 h hr hkl
    have h2a:okM p q (eB p c m a r k):=kS hp.1 ha (by omega) (by omega)
    have hl2:(eB p c m m r k).length=m.length:=oL p c m m r k
    have hl2a:(eB p c m a r k).length=m.length:=by rw [oL];exact hl
    have hr2:r<(eB p c m m r k).length:=by omega
    have:=kC (n:=(eB p c m m r k).length) (fun i=>(xB (jB p c r (eB p c m m r k) (eB p c m m r k)) (eB p c m m r k) i,xB (jB p c r (eB p c m m r k) (eB p c m a r k)) (eB p c m a r k) i)) (f:=(fun (k7893:Nat) (s8050:List (List Int)×List (List Int))=>
        ((some (!decide (((k7893:Nat):Int)=(r:Int)))).bind fun a8088=>
         cond a8088
         ((idxO s8050.1 ((k7893:Nat):Int)).bind fun a8098=>
          (idxO a8098 (c:Int)).bind fun a8107=>
          (some (!decide (a8107=0))).bind fun a8109=>
          some a8109)
         (some false)).bind fun (s8082:Bool)=>
        cond s8082
        ((idxO s8050.1 ((k7893:Nat):Int)).bind fun a8121=>
         (idxO a8121 (c:Int)).bind fun a8130=>
         (iG (2,((k7893:Nat):Int),(r:Int),a8130) p s8050.1 s8050.2).bind fun y8132=>
         some (y8132.1,y8132.2))
        (some (s8050.1,s8050.2)))) ?_
    ·
     have e1:xB (jB p c r (eB p c m m r k) (eB p c m m r k)) (eB p c m m r k) (eB p c m m r k).length=gB p c m m r k:=yO _ _
     have e2:xB (jB p c r (eB p c m m r k) (eB p c m a r k)) (eB p c m a r k) (eB p c m m r k).length=gB p c m a r k:=by
      rw [hl2,← hl2a,yO];rfl
     rw [partG0,partG0,e1,e2] at this
     exact bnd this (bnd (bC (by omega) (by omega)) rfl)
    ·
     show ∀ i,i<(eB p c m m r k).length→_
     unfold gB at *
     generalize eB p c m m r k=w at h2 hl2 hr2
     generalize eB p c m a r k=b at h2a hl2a
     intro i hi
     have hib:i<b.length:=by omega
     have hrb:r<b.length:=by omega
     have hrow2:=zB h2 hi
     have hli:i<(xB (jB p c r w w) w i).length:=by rw [lG];exact hi
     have hlr:r<(xB (jB p c r w w) w i).length:=by rw [lG];exact hr2
     have i1:=xC hli
     rw [jR hi] at i1
     by_cases hir:i=r
     ·
      refine bnd (a:=false) (stp (cFW (nT (dT (by omega))) rfl)) (cFW rfl ?_)
      rw [gR hi (Or.inl hir),gR hib (Or.inl hir)]
     ·
      by_cases h0:el (gr w i) c=0
      ·
       refine bnd (a:=false) (stp (cTW (nF (dF (by omega))) (bnd i1 (bnd (iD (by omega)) (stp (by rw [dT h0];rfl)))))) (cFW rfl ?_)
       rw [gR hi (Or.inr h0),gR hib (Or.inr h0)]
      ·
       refine bnd (a:=true) (stp (cTW (nF (dF (by omega))) (bnd i1 (bnd (iD (by omega)) (stp (by rw [dF h0];rfl)))))) (cTW rfl ?_)
       refine bnd i1 (bnd (iD (by omega)) ?_)
       have hfe:=fH h2 hi (show c<N by omega)
       have:=F5_ (f:=el (gr w i) c) hp (Cg_ (c:=c) (r:=r) (m:=w) hp.1 h2 i) (Cg_ (c:=c) (r:=r) (m:=w) hp.1 h2a i) hli hlr (by rw [lG,lG];omega) hir hfe
       rw [jR hi,jR hib,Bw_ i hr2,Bw_ i hrb] at this
       refine bnd this ?_
       rw [Bv_ hi hir h0,Bv_ hib hir h0]
 ·
  by_cases hk:k=m.length
  · rw [if_pos hk,if_pos hk];exact bnd (bC (by omega) (by omega)) rfl
  · rw [if_neg hk,if_neg hk];exact bnd (bC (by omega) (by omega)) rfl
theorem gX {p:Int}{n N q:Nat} (hf:fdB p=true) (hn:n≤N) (hN:N≤1048576):∀ (d c:Nat) (m a:Rows) (r:Nat),c+d=n→okM p N m→okM p q a→m.length≤1048576→a.length=m.length→r≤m.length →
  tB (iO p (n:Int)) (m,a,(c:Int),(r:Int))=some ((lB p d c m a r).1,(lB p d c m a r).2.1,((lB p d c m a r).2.2:Int))
 | 0,c,m,a,r,hc,h,ha,hL,hl,hr=>by
  refine sE ?_
  unfold iO
  exact bnd (a:=false) (stp (cFW (dF (by dsimp only;omega)) rfl)) (cFW rfl rfl)
 | d+1,c,m,a,r,hc,h,ha,hL,hl,hr=>by
  unfold lB
  by_cases hrl:r<m.length
  ·
   rw [if_pos hrl]
   have hs:=FJ_ hf h ha hn hN hL hl hrl (show c<n by omega)
   obtain ⟨s1,s2,s3⟩:=cH m c (m.length-r) r (by omega)
   split
   ·
    rename_i hk
    rw [if_pos hk] at hs
    rw [kG hs]
    exact gX hf hn hN d (c+1) m a r (by omega) h ha hL hl hr
   ·
    rename_i hk
    rw [if_neg hk] at hs
    rw [kG hs]
    have hkl:scanN m c (m.length-r) r<m.length:=by omega
    exact gX hf hn hN d (c+1) _ _ (r+1) (by omega) (uF (aC hf).1 h hrl hkl) (uF (aC hf).1 ha (by omega) (by omega)) (by rw [nD];exact hL) (by rw [nD,nD];exact hl) (by rw [nD];omega)
  ·
   rw [if_neg hrl]
   refine sE ?_
   unfold iO
   exact bnd (a:=false) (stp (cTW (dT (by dsimp only;omega)) (stp (by rw [dF (by dsimp only;omega)])))) (cFW rfl rfl)
theorem kL {p:Int}{N q:Nat} (hp:2≤p):∀ (d c:Nat) (m a:Rows) (r:Nat),okM p N m→okM p q a→a.length=m.length→r≤m.length →
  okM p N (lB p d c m a r).1∧okM p q (lB p d c m a r).2.1∧(lB p d c m a r).1.length=m.length∧(lB p d c m a r).2.1.length=m.length∧r≤(lB p d c m a r).2.2∧(lB p d c m a r).2.2≤m.length∧(lB p d c m a r).2.2≤r+d
 | 0,c,m,a,r,h,ha,hl,hr=>⟨h,ha,rfl,hl,Nat.le_refl _,hr,by simp [lB]⟩
 | d+1,c,m,a,r,h,ha,hl,hr=>by
  unfold lB
  by_cases hrl:r<m.length
  ·
   rw [if_pos hrl]
   obtain ⟨s1,s2,s3⟩:=cH m c (m.length-r) r (by omega)
   split
   ·
    obtain ⟨k1,k2,k3,k4,k5,k6,k7⟩:=kL hp d (c+1) m a r h ha hl hr
    exact ⟨k1,k2,k3,k4,k5,k6,by omega⟩
   ·
    have hkl:scanN m c (m.length-r) r<m.length:=by omega
    obtain ⟨k1,k2,k3,k4,k5,k6,k7⟩:=kL hp d (c+1) (gB p c m m r (scanN m c (m.length-r) r)) (gB p c m a r (scanN m c (m.length-r) r)) (r+1) (uF hp h hrl hkl) (uF hp ha (by omega) (by omega)) (by rw [nD,nD];exact hl) (by rw [nD];omega)
    rw [nD] at k3 k4 k6
    exact ⟨k1,k2,k3,k4,by omega,k6,by omega⟩
  · rw [if_neg hrl];exact ⟨h,ha,rfl,hl,Nat.le_refl _,hr,Nat.le_add_right _ _⟩
def eC (p:Int) (n:Nat) (m:Rows):Rows:=(lB p n 0 m m 0).1.take (lB p n 0 m m 0).2.2
theorem lN (p:Int):∀ (d c:Nat) (m a b:Rows) (r:Nat),(lB p d c m a r).1=(lB p d c m b r).1∧(lB p d c m a r).2.2=(lB p d c m b r).2.2
 | 0,_,_,_,_,_=>⟨rfl,rfl⟩
 | d+1,c,m,a,b,r=>by
  unfold lB
  split
  ·
   split
   · exact lN p d (c+1) m a b r
   · exact lN p d (c+1) _ _ _ (r+1)
  · exact ⟨rfl,rfl⟩
theorem AI_ {p:Int}{n N q:Nat}{m a:Rows} (hf:fdB p=true) (hn:n≤N) (hN:N≤1048576) (h:okM p N m) (ha:okM p q a) (hL:m.length≤1048576) (hl:a.length=m.length) :
  vP p m (n:Int) a=some ((lB p n 0 m a 0).1,(lB p n 0 m a 0).2.1,((lB p n 0 m a 0).2.2:Int)):=
 bnd (gX hf hn hN n 0 m a 0 (by omega) h ha hL hl (by omega)) rfl
theorem CM_ {α:Type}{l:List α}{k:Nat} (h:k≤l.length):gC l 0 (k:Int)=some (l.take k):=by
 unfold gC
 rw [if_pos (by omega)]
 simp
theorem Br_ {p:Int}{n N:Nat}{m:Rows} (hf:fdB p=true) (hn:n≤N) (hN:N≤1048576) (h:okM p N m) (hL:m.length≤1048576):zP p m (n:Int)=some (eC p n m):=by
 have hm:aB=1099511627776:=rfl
 have ha:okM p 0 (List.replicate m.length ([]:List Int)):=by
  intro x hx
  rw [List.eq_of_mem_replicate hx]
  exact ⟨rfl,fun y hy=>by cases hy⟩
 obtain ⟨k1,_,k3,_,_,k6,_⟩:=kL (aC hf).1 n 0 m (List.replicate m.length []) 0 h ha (by simp) (by omega)
 obtain ⟨e1,e2⟩:=lN p n 0 m (List.replicate m.length []) m 0
 refine bnd (CG_ (by omega) (fun r hr=>by have:=(h r hr).1;omega)) (bnd (wF _ (by omega)) (bnd (AI_ hf hn hN h ha hL (by simp)) ?_))
 unfold eC
 rw [←e1,← e2]
 exact bnd (CM_ (by dsimp only;omega)) rfl
theorem bX {p:Int}{n N:Nat}{m:Rows} (hf:fdB p=true) (hn:n≤N) (hN:N≤1048576) (h:okM p N m) (hL:m.length≤1048576):aN p (n:Int) m=some (eC p n m):=by
 have hm:aB=1099511627776:=rfl
 obtain ⟨k1,_,k3,_,_,k6,_⟩:=kL (aC hf).1 n 0 m m 0 h h rfl (by omega)
 have hcopy:jA (fun (k2:Nat) (s55:List (List Int))=>
   (idxO m ((k2:Nat):Int)).bind fun a72=>
   (iL a72).bind fun y76=>
   (xA s55 [y76]).bind fun a84=>
   some a84) m.length 0 []=some m:=by
  refine (mG (fun r=>r) m [] (by simp;omega) ?_).trans (by simp)
  intro j x s hx hs
  have hj:j<m.length:=(List.getElem?_eq_some_iff.1 hx).1
  have h1:=(h x (dE hx)).1
  exact bnd (pA hx) (bnd (own_ (by omega)) (bnd (yB (by simp at hs ⊢;omega)) rfl))
 refine bnd hcopy (bnd (aX hf hn hN n 0 m m 0 (by omega) h hL (by omega)) ?_)
 exact bnd (CM_ (by dsimp only;omega)) rfl
theorem wX {p:Int}{n N:Nat}{m:Rows} (hp:2≤p) (h:okM p N m):okM p N (eC p n m)∧(eC p n m).length≤m.length∧(eC p n m).length≤n:=by
 obtain ⟨k1,_,k3,_,_,k6,k7⟩:=kL hp n 0 m m 0 h h rfl (by omega)
 unfold eC
 refine ⟨fun r hr=>k1 r (List.mem_of_mem_take hr),?_,?_⟩
 · rw [List.length_take];omega
 · rw [List.length_take];omega
end Go.Proofs.YtngbmcbigcaapaaGreatDoor
