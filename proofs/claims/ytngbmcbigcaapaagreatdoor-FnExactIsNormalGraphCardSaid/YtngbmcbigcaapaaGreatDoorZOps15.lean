/-
  Variables that a drawn region makes for itself: what is written into them leaves all that was there before. Conditions: those of the rules.
-/
import Derived.Test.YtngbmcbigcaapaaGreatDoorZOps14
namespace Go.Proofs.YtngbmcbigcaapaaGreatDoor.RW
open Go
open Rep RepZ
section
variable {P:Program}{G:Eng}{w w0:World}{F:List Nat}{S0:Nat→Prop}{Γ:List Ent}
theorem Upd.fresh {a b c:World}{x:Nat} (h:Ext a b) (k:Upd [x] b c) (hx:a.heap.size≤x):Ext a c:=h.trans k fun y hy=>.inr (by rw [List.mem_singleton.1 hy];exact hx)
theorem boxX {t:Nat}{v:Value}{K:Value→World→Prop} (H:Cx w0 F S0 w Γ) (hK:∀ b w',Ext w w'→w.heap.size≤b→Cx w0 F S0 w' (Bx b v.cells.toList::Γ)→K (.pointer (some ⟨b,0,none⟩)) w'):ERun P (Instr.box t v) w K:=
 wB (v:=.pointer (some ⟨w.heap.size,0,none⟩)) (w':=w.alloc (.cells v.cells t)) (by simp [Instr.box,newVar,newRow])
  (hK _ _ (Upd.alloc w _) (Nat.le_refl _) (H.new (f:=[w.heap.size]) (Upd.alloc w _) (fun S _=>⟨rfl,yS w _ _⟩) (by simp) (by simp)))
theorem lC {t s bb:Nat}{k:TK}{z:Value}{K:Value→World→Prop} (ok:EngOk P G) (ht:oA G.tt t=some ⟨k,s,bb,z⟩) (H:Cx w0 F S0 w Γ) (hK:∀ b w',Ext w w'→w.heap.size≤b→Cx w0 F S0 w' (Bx b z.cells.toList::Γ)→K (.pointer (some ⟨b,0,none⟩)) w') :
  ERun P (Instr.alloc t true (.tuple #[])) w K:=by
 obtain ⟨i,hi,hiz,his,hib⟩:=bF ok ht
 simp only at hiz
 exact wB (v:=.pointer (some ⟨w.heap.size,0,none⟩)) (w':=w.alloc (.cells z.cells t)) (by simp [Instr.alloc,zeroValue,typeInfo,hi,hiz,newVar,newRow])
  (hK _ _ (Upd.alloc w _) (Nat.le_refl _) (H.new (f:=[w.heap.size]) (Upd.alloc w _) (fun S _=>⟨rfl,yS w _ _⟩) (by simp) (by simp)))
theorem stBX {b j:Nat}{cs:List Value}{v:Value}{K:World→Prop} (H:Cx w0 F S0 w (Bx b cs::Γ)) (hj:Nat.blt j cs.length=true) (hv:v.oneCell'=true) (hK:∀ w',Upd [b] w w'→Cx w0 F S0 w' (Bx b (cs.set j v)::Γ)→K w') :
  EStore (.pointer (some (Addr.add ⟨b,0,none⟩ j))) v w K:=by
 have hj:j<cs.length:=by simpa [Nat.blt_eq] using hj
 have hg:=H.bx 0 rfl (List.getElem?_eq_getElem hj)
 obtain ⟨S,f1,h1,h2⟩:=Cx.frame (Γ1:=[Bx b cs]) H
 obtain ⟨f,g,hfg,⟨hf,e,he⟩,hgg⟩:=h1.all
 have hgg:g=[]:=hgg
 subst hf hgg hfg
 have hu:Upd [b] w (w.setCell (Addr.add ⟨b,0,none⟩ j) v):=(Upd.setCell w _ v).mono (fun x hx=>.inl (by rw [Addr.add_lit] at hx;simpa using hx))
 refine .mk ⟨_,_,rfl,hg,?_,hv,hK _ hu (h2 _ [Bx b (cs.set j v)] ⟨S,[b],⟨hu,fun _ h=>h,fun x hx=>⟨?_,.inl hx⟩,⟨[b],[],rfl,⟨rfl,e,?_⟩,rfl⟩,by simp,fun x hx=>h1.out x hx⟩⟩)⟩
 · rw [Addr.add_lit];exact frozen_of_row w b _ cs.toArray e he
 ·
  have:=(h1.sb x hx).1
  simpa [World.setCell] using this
 · rw [Addr.add_lit,pI _ he,Nat.zero_add];simp
theorem bD {b:Nat}{u v:Value}{cs:List Value}{K:World→Prop} (H:Cx w0 F S0 w (Bx b (u::cs)::Γ)) (hv:v.oneCell'=true) (hK:∀ w',Upd [b] w w'→Cx w0 F S0 w' (Bx b (v::cs)::Γ)→K w') :
  EStore (.pointer (some ⟨b,0,none⟩)) v w K:=by
 have:=stBX (j:=0) H rfl hv hK
 rwa [wI] at this
theorem stAX_ {t bb b:Nat}{k:TK}{z:Value}{cs:List Value}{cs':Array Value}{K:World→Prop} (ok:EngOk P G) (ht:oA G.tt t=some ⟨k,cs'.size,bb,z⟩) (H:Cx w0 F S0 w (Bx b cs::Γ)) (hl:Nat.beq cs.length cs'.size=true) (h1:cs'.all (·.oneCell')=true) (hK:∀ w',Upd [b] w w'→Cx w0 F S0 w' (Bx b cs'.toList::Γ)→K w'):EDo P (Instr.storeAt t (.pointer (some ⟨b,0,none⟩)) (.agg cs')) w K:=by
 have hl:=Nat.eq_of_beq_eq_true hl
 obtain ⟨i,hi,hiz,his,hib⟩:=bF ok ht
 simp only at his
 obtain ⟨S,f1,hh,h2⟩:=Cx.frame (Γ1:=[Bx b cs]) H
 obtain ⟨f,g,hfg,⟨hf,e,h⟩,hgg⟩:=hh.all
 have hgg:g=[]:=hgg
 subst hf hgg hfg
 have hth:w.there b 0 cs'.size:=fun j hj=>by
  refine ⟨?_,frozen_of_row w b _ cs.toArray e h⟩
  rw [cell_of_row w b _ cs.toArray e (0,0) h,Nat.zero_add,List.getElem?_toArray,List.getElem?_eq_getElem (by omega)];rfl
 have hr:=run_storeAt_mid (P:=P) w b 0 t cs' hth (by rw [hi];simp [his]) h1
 have hu:=Upd.setCells b 0 cs'.toList w
 refine .mk ⟨_,hr,hK _ hu (h2 _ [Bx b cs'.toList] ⟨S,[b],⟨hu,fun _ h=>h,fun x hx=>⟨Nat.lt_of_lt_of_le (hh.sb x hx).1 hu.size,.inl hx⟩,⟨[b],[],rfl,⟨rfl,e,?_⟩,rfl⟩,by simp,fun x hx=>hh.out x hx⟩⟩)⟩
 obtain ⟨c2,k1,k2,k3,k4⟩:=eN b e (0,0) cs'.toList 0 w cs.toArray h (by simp;omega)
 rw [k1]
 congr 2
 apply Array.ext'
 apply List.ext_getElem?
 intro j
 by_cases hj:j<cs'.size
 ·
  have:=k4 j cs'[j] (by simp [hj])
  rw [Nat.zero_add] at this
  simp [this,hj]
 · rw [List.getElem?_eq_none (by simp;simp at k2;omega),List.getElem?_eq_none (by simp;omega)]
theorem pF {t bb b:Nat}{k:TK}{z:Value}{cs:List Value}{n:Nat}{K:World→Prop} (ok:EngOk P G) (cs':List Value) (ht:oA G.tt t=some ⟨k,n,bb,z⟩) (H:Cx w0 F S0 w (Bx b cs::Γ)) (hn:cs'.length=n) (hl:cs.length=n) (h1:dP cs'=true) (hK:∀ w',Upd [b] w w'→Cx w0 F S0 w' (Bx b cs'::Γ)→K w'):EDo P (Instr.storeAt t (.pointer (some ⟨b,0,none⟩)) (.agg cs'.toArray)) w K:=by
 subst hn
 refine stAX_ ok (cs':=cs'.toArray) (by simpa using ht) H (by rw [hl];simp) ?_ hK
 rw [Array.all_eq_true']
 intro v hv
 exact mR cs' h1 v (by simpa using hv)
end
end Go.Proofs.YtngbmcbigcaapaaGreatDoor.RW
