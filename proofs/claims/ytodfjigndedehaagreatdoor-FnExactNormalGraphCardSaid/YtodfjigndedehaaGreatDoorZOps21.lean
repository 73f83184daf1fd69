/-
  Maps from int to []int that a call makes for itself (of which the keys are told, and how long the lists are): made, a list taken out and put back, a key deleted, a loop over an empty one. Conditions: the engine's vD holds ('EngOk').
-/
import Derived.Test.YtodfjigndedehaaGreatDoorZOps20
namespace Go.Proofs.YtodfjigndedehaaGreatDoor.RW
open Go
open Rep RepZ
set_option linter.unusedVariables false
set_option linter.unusedSectionVars false
def MLq (w:World) (S:Nat→Prop) (fp:List Nat) (b:Nat) (ks:List Int) (N:Nat) (o:Option Int):Prop:=
 ∃ (es:Array MapEntry) (clock:Nat) (fps:List (List Nat)),w.heap[b]?=some (.map es clock)∧es.toList.map (·.key)=ks.map (Value.int .i64)∧ks.Nodup∧fps.length=es.toList.length∧fp=b::fps.flatten∧fp.Nodup ∧
  ∀ (i:Nat) (x:MapEntry) (f:List Nat),es.toList[i]?=some x→fps[i]?=some f→(∃ c,o=some c∧x.key=.int .i64 c∧f=[])∨∃ (l:List Int) (g:Hd),x.val=g.v∧l.length≤N∧own w S f l g
theorem BH_ {fps:List (List Nat)}{i:Nat}{f:List Nat}{b:Nat} (h:fps[i]?=some f) (hb:b∈f):b∈fps.flatten:=List.mem_flatten.2 ⟨f,List.mem_of_getElem? h,hb⟩
def EML (b:Nat) (ks:List Int) (N:Nat) (o:Option Int):Ent:=⟨fun w S fp=>MLq w S fp b ks N o,
 fun hS ⟨es,c,fps,h1,h2,h3,h4,h5,h6,h7⟩=>⟨es,c,fps,h1,h2,h3,h4,h5,h6,fun i x f hi hf=>(h7 i x f hi hf).imp id fun ⟨l,g,k1,k2,k3⟩=>⟨l,g,k1,k2,own_mono hS k3⟩⟩,
 fun hS hf ⟨es,c,fps,h1,h2,h3,h4,h5,h6,h7⟩=>⟨es,c,fps,(hf b (by rw [h5];simp)).trans h1,h2,h3,h4,h5,h6,fun i x f hi hfi=>(h7 i x f hi hfi).imp id fun ⟨l,g,k1,k2,k3⟩=>⟨l,g,k1,k2,own_keep hS (fun y hy=>hf y (by rw [h5];exact List.mem_cons_of_mem _ (BH_ hfi hy))) k3⟩⟩,
 fun ⟨es,c,fps,h1,h2,h3,h4,h5,h6,h7⟩ y hy=>by
  rw [h5] at hy
  rcases List.mem_cons.1 hy with rfl | hy
  · exact yG h1
  ·
   obtain ⟨f,hf,hy⟩:=List.mem_flatten.1 hy
   obtain ⟨i,hi⟩:=List.getElem?_of_mem hf
   have hil:i<es.toList.length:=by rw [←h4];exact (List.getElem?_eq_some_iff.1 hi).1
   rcases h7 i _ f (List.getElem?_eq_getElem hil) hi with ⟨c,_,_,rfl⟩ | ⟨l,g,_,_,k3⟩
   · cases hy
   · exact own_lt k3 y hy⟩
section
variable {P:Program}{G:Eng}{w0 w:World}{F:List Nat}{S0:Nat→Prop}{Γ:List Ent}
theorem keysL {es:List MapEntry}{ks:List Int} (h:es.map (·.key)=ks.map (Value.int .i64)):∀ x∈es,MapKept.IsKey (.int .i64) x.key:=by
 intro x hx
 have:x.key∈ks.map (Value.int .i64):=by rw [←h];exact List.mem_map_of_mem hx
 obtain ⟨s,_,e⟩:=List.mem_map.1 this
 rw [←e];rfl
theorem Bs_ {es:List MapEntry}{ks:List Int}{j:Nat}{x:MapEntry} (h:es.map (·.key)=ks.map (Value.int .i64)) (hx:es[j]?=some x):∃ c,ks[j]?=some c∧x.key=.int .i64 c:=by
 have:=congrArg (fun q=>q[j]?) h
 simp only [List.getElem?_map,hx,Option.map_some] at this
 cases hl:ks[j]? with
 | none=>rw [hl] at this;cases this
 | some p=>rw [hl] at this;exact ⟨p,rfl,Option.some.inj this⟩
theorem E5_ {es:List MapEntry}{ks:List Int}{c:Int} (h:es.map (·.key)=ks.map (Value.int .i64)) (hn:∀ x∈es,x.key≠.int .i64 c):c ∉ ks:=by
 intro hc
 have:Value.int .i64 c∈es.map (·.key):=by rw [h];exact List.mem_map_of_mem hc
 obtain ⟨x,hx,e⟩:=List.mem_map.1 this
 exact hn x hx e
theorem I8_ {es:List MapEntry}{ks:List Int} (h:es.map (·.key)=ks.map (Value.int .i64)) (hn:ks.Nodup){i j:Nat}{x y:MapEntry} (hi:es[i]?=some x) (hj:es[j]?=some y) (e:x.key=y.key):i=j:=by
 obtain ⟨c,hc,k1⟩:=Bs_ h hi
 obtain ⟨d,hd,k2⟩:=Bs_ h hj
 rw [k1,k2] at e
 injection e with _ e
 subst e
 obtain ⟨h1,h2⟩:=List.getElem?_eq_some_iff.1 hc
 obtain ⟨h3,h4⟩:=List.getElem?_eq_some_iff.1 hd
 exact (List.getElem_inj hn).1 (h2.trans h4.symm)
theorem mkML {t:Nat}{K:Value→World→Prop} (H:Cx w0 F S0 w Γ) (hK:∀ b w',Ext w w'→Cx w0 F S0 w' (EML b [] 0 none::Γ)→K (.map (some b)) w'):ERun P (Instr.makeMap t none) w K:=
 cC (v:=.map (some w.heap.size)) (w':=w.alloc (.map #[] 0)) (RowKit.run_makeMap t w)
  (hK _ _ (Upd.alloc w _) (H.new (f:=[w.heap.size]) (Upd.alloc w _) (fun S _=>⟨#[],0,[],(MapKept.heap_alloc w _).1,rfl,List.nodup_nil,rfl,rfl,by simp,fun i x f hi=>by simp at hi⟩) (by simp) (by simp)))
theorem Cx.mlOut {b:Nat}{ks:List Int}{N:Nat} (x:Int) (H:Cx w0 F S0 w (EML b ks N none::Γ)):Cx w0 F S0 w (EML b ks N (some x)::Γ):=
 H.imp fun S f hf ⟨es,c,fps,h1,h2,h3,h4,h5,h6,h7⟩=>⟨es,c,fps,h1,h2,h3,h4,h5,h6,fun i y f hi hf=>by
  rcases h7 i y f hi hf with ⟨_,h,_⟩ | h
  · cases h
  · exact .inr h⟩
theorem lookML {t k e n bb:Nat}{kk:TK}{b:Nat}{ks:List Int}{N:Nat}{x:Int}{K:Value→World→Prop} (ok:EngOk P G) (ht:P.underlying t=some (.map k e)) (hk:P.underlying k=some (.int .i64)) (he:tA G.tt e=some ⟨kk,n,bb,.slice none 0 0⟩) (H:Cx w0 F S0 w (EML b ks N none::Γ))
  (hK:∀ (l:List Int) (h:Hd),l.length≤N→Cx w0 F S0 w (E (List Int) l h::EML b ks N (some x)::Γ)→K h.v w):ERun P (Instr.lookup t (.map (some b)) (.int .i64 x) false) w K:=by
 have HH:=H
 obtain ⟨S,fp,I⟩:=H
 obtain ⟨f,r,rfl,⟨es,c,fps,hb,h2,h3,h4,rfl,h6,h7⟩,hr⟩:=I.all
 obtain ⟨inf,hinf,hiz,_,_⟩:=zF ok he
 simp only at hiz
 have hz:(zeroValue e).run P w=.ok (.slice none 0 0) w:=by simp [zeroValue,typeInfo,hinf,hiz]
 have hch:=MapKept.run_checkKey (P:=P) (w:=w) hk (k:=.int .i64 x) rfl es.isEmpty 9999
 rcases MapKept.findNow_spec (d:=.int .i64) (k:=.int .i64 x) rfl es.toList 0 (keysL h2) with ⟨f1,f2⟩ | ⟨j,y,f1,f2,f3⟩
 ·
  have hf:=MapKept.run_findKey (P:=P) (w:=w) hk f1
  refine cC (v:=nilH.v) (w':=w) ?_ (hK [] nilH (Nat.zero_le _) (HH.mlOut x).nil)
  simp [Instr.lookup,run_underlying ht,MapKept.run_getObj_map hb,hch,hf,hz,Result.andThen,nilH,Hd.v]
 ·
  have hf:=MapKept.run_findKey (P:=P) (w:=w) hk f1
  have hjl:j<fps.length:=by rw [h4];exact (List.getElem?_eq_some_iff.1 f2).1
  rcases h7 j y fps[j] f2 (List.getElem?_eq_getElem hjl) with ⟨_,h,_⟩ | ⟨l,g,k1,k2,k3⟩
  · cases h
  obtain ⟨n1,n2,n3⟩:=List.nodup_append.1 I.nd
  obtain ⟨s1,s2⟩:=Aq_ hjl n1
  have hsub:∀ x∈fps[j]++(b::(fps.set j []).flatten),x∈b::fps.flatten:=by
   intro x hx
   rcases List.mem_append.1 hx with hx | hx
   · exact List.mem_cons_of_mem _ (List.mem_flatten.2 ⟨_,List.getElem_mem hjl,hx⟩)
   ·
    rcases List.mem_cons.1 hx with rfl | hx
    · simp
    ·
     obtain ⟨i,hi,_,hb⟩:=jQ hx
     exact List.mem_cons_of_mem _ (List.mem_flatten.2 ⟨_,List.getElem_mem hi,hb⟩)
  refine cC (v:=g.v) (w':=w) ?_ (hK l g k2 ⟨S,fps[j]++((b::(fps.set j []).flatten)++r),I.upd,I.s0,I.sb,⟨fps[j],_,rfl,k3,b::(fps.set j []).flatten,r,rfl,⟨es,c,fps.set j [],hb,h2,h3,by rw [List.length_set];exact h4,rfl,s2,fun i z f hi hf=>?_⟩,hr⟩,?_,fun x hx=>?_⟩)
  · simp [Instr.lookup,run_underlying ht,MapKept.run_getObj_map hb,hch,hf,k1,Result.andThen]
  ·
   by_cases hij:j=i
   ·
    subst hij
    rw [f2] at hi
    obtain rfl:=Option.some.inj hi
    rw [List.getElem?_set_self hjl] at hf
    exact .inl ⟨x,rfl,f3,(Option.some.inj hf).symm⟩
   ·
    rw [List.getElem?_set_ne hij] at hf
    rcases h7 i z f hi hf with ⟨_,h,_⟩ | h
    · cases h
    · exact .inr h
  ·
   rw [←List.append_assoc]
   exact List.nodup_append.2 ⟨s1,n2,fun x hx y hy=>n3 x (hsub x hx) y hy⟩
  ·
   rw [←List.append_assoc] at hx
   refine I.out x ?_
   rcases List.mem_append.1 hx with hx | hx
   · exact List.mem_append_left _ (hsub x hx)
   · exact List.mem_append_right _ hx
theorem updML {t k e:Nat}{b:Nat}{ks:List Int}{N N':Nat}{x:Int}{l:List Int}{g:Hd}{K:World→Prop} (ht:P.underlying t=some (.map k e)) (hk:P.underlying k=some (.int .i64)) (H:Cx w0 F S0 w (E (List Int) l g::EML b ks N (some x)::Γ)) (hl:l.length≤N') (hN:N≤N')
  (hK:∀ (w':World) (ks':List Int),(∀ c∈ks',c∈ks∨c=x)→Cx w0 F S0 w' (EML b ks' N' none::Γ)→K w'):EDo P (Instr.mapUpdate t (.map (some b)) (.int .i64 x) g.v) w K:=by
 obtain ⟨S,f1,h1,h2⟩:=Cx.frame (Γ1:=[E (List Int) l g,EML b ks N (some x)]) H
 obtain ⟨fl,r,hfr,hown,fm,r',hfr',⟨es,c,fps,hb,k2,k3,k4,k5,k6,k7⟩,hrr⟩:=h1.all
 have hrr:r'=[]:=hrr
 subst hrr hfr' hfr k5
 have hown:own w S fl l g:=hown
 have hkey:MapKept.IsKey (.int .i64) (.int .i64 x):=rfl
 have hch:=MapKept.run_checkKey (P:=P) (w:=w) hk (k:=.int .i64 x) hkey false 9999
 have hnd:=h1.nd
 rw [List.append_nil] at hnd
 obtain ⟨n1,n2,n3⟩:=List.nodup_append.1 hnd
 have hbl:b ∉ fl:=fun h=>n3 b h b (by simp) rfl
 have hbS:¬S b:=(h1.out b (by simp)).1
 obtain ⟨m1,m2⟩:=List.nodup_cons.1 n2
 have go:∀ (es':Array MapEntry) (c':Nat) (ks':List Int) (fps':List (List Nat)),es'.toList.map (·.key)=ks'.map (Value.int .i64)→ks'.Nodup→fps'.length=es'.toList.length→(b::fps'.flatten).Nodup→(∀ y∈fps'.flatten,y∈fl∨y∈fps.flatten)→(∀ c∈ks',c∈ks∨c=x) →
   (∀ (i:Nat) (z:MapEntry) (f:List Nat),es'.toList[i]?=some z→fps'[i]?=some f→∃ (l:List Int) (g:Hd),z.val=g.v∧l.length≤N'∧own w S f l g)→K { w with heap:=w.heap.setIfInBounds b (.map es' c') }:=by
  intro es' c' ks' fps' q1 q2 q3 q4 q5 q6 q7
  have hh:=MapKept.heap_set (o':=.map es' c') hb
  have hu:Upd (fl++((b::fps.flatten)++[])) w { w with heap:=w.heap.setIfInBounds b (.map es' c') }:=⟨rfl,rfl,rfl,by simp,fun y _ hy=>hh.2 y (fun e=>hy (by rw [e];simp))⟩
  have hk1:∀ y,y≠b→({ w with heap:=w.heap.setIfInBounds b (.map es' c') }:World).heap[y]?=w.heap[y]?:=fun y hy=>hh.2 y hy
  refine hK _ ks' q6 (h2 _ [EML b ks' N' none] ⟨S,b::fps'.flatten,⟨hu,fun _ h=>h,fun y hy=>⟨?_,.inl hy⟩,⟨b::fps'.flatten,[],by simp,⟨es',c',fps',hh.1,q1,q2,q3,rfl,q4,fun i z f hi hf=>?_⟩,rfl⟩,q4,fun y hy=>?_⟩⟩)
  ·
   have:=(h1.sb y hy).1
   simpa using this
  ·
   obtain ⟨l',g',a1,a2,a3⟩:=q7 i z f hi hf
   refine .inr ⟨l',g',a1,a2,own_keep (fun y hy=>hk1 y (fun e=>hbS (e ▸ hy))) (fun y hy=>hk1 y (fun e=>?_)) a3⟩
   subst e
   exact (List.nodup_cons.1 q4).1 (BH_ hf hy)
  ·
   rcases List.mem_cons.1 hy with rfl | hy
   · exact h1.out _ (by simp)
   ·
    rcases q5 y hy with hy | hy
    · exact h1.out _ (List.mem_append_left _ hy)
    · exact h1.out _ (List.mem_append_right _ (List.mem_append_left _ (List.mem_cons_of_mem _ hy)))
 rcases MapKept.findNow_spec (d:=.int .i64) (k:=.int .i64 x) hkey es.toList 0 (keysL k2) with ⟨f1,f2⟩ | ⟨j,y,f1,f2,f3⟩
 ·
  have hfk:=MapKept.run_findKey (P:=P) (w:=w) hk f1
  have hset:=MapKept.run_setObj_map (P:=P) (.map (es.push { key:=.int .i64 x,val:=g.v,born:=c }) (c+1)) hb
  refine .mk ⟨_,?_,go (es.push { key:=.int .i64 x,val:=g.v,born:=c }) (c+1) (ks++[x]) (fps++[fl]) ?_ ?_ ?_ ?_ ?_ ?_ ?_⟩
  · simp [Instr.mapUpdate,run_underlying ht,MapKept.run_getObj_map hb,hch,hfk,hset,Result.andThen]
  · simp [k2]
  ·
   exact List.nodup_append.2 ⟨k3,by simp,fun a ha z hz e=>by
    simp only [List.mem_cons,List.not_mem_nil,or_false] at hz
    rw [e,hz] at ha
    exact E5_ k2 f2 ha⟩
  · simp [k4]
  ·
   rw [List.flatten_append,List.flatten_cons,List.flatten_nil,List.append_nil]
   refine List.nodup_cons.2 ⟨fun h=>?_,List.nodup_append.2 ⟨m2,n1,fun a ha z hz e=>n3 z hz a (List.mem_cons_of_mem _ ha) e.symm⟩⟩
   rcases List.mem_append.1 h with h | h
   · exact m1 h
   · exact hbl h
  ·
   intro z hz
   rw [List.flatten_append,List.flatten_cons,List.flatten_nil,List.append_nil] at hz
   exact (List.mem_append.1 hz).symm
  ·
   intro z hz
   rcases List.mem_append.1 hz with h | h
   · exact .inl h
   · exact .inr (by simpa using h)
  ·
   intro i z f hi hf
   rw [Array.toList_push] at hi
   by_cases hil:i<es.toList.length
   ·
    rw [List.getElem?_append_left hil] at hi
    rw [List.getElem?_append_left (by omega)] at hf
    rcases k7 i z f hi hf with ⟨q,hq,hz,_⟩ | ⟨l',g',a1,a2,a3⟩
    ·
     obtain rfl:=Option.some.inj hq
     exact (f2 z (List.mem_of_getElem? hi) hz).elim
    · exact ⟨l',g',a1,Nat.le_trans a2 hN,a3⟩
   ·
    rw [List.getElem?_append_right (by omega)] at hi hf
    rw [k4] at hf
    have h0:i-es.toList.length=0:=by
     have:=(List.getElem?_eq_some_iff.1 hi).1
     simpa using this
    rw [h0] at hi hf
    obtain rfl:=Option.some.inj hi
    obtain rfl:=Option.some.inj hf
    exact ⟨l,g,rfl,hl,hown⟩
 ·
  have hfk:=MapKept.run_findKey (P:=P) (w:=w) hk f1
  have hst:=MapKept.run_keyThatStays (P:=P) (w:=w) hkey
  have hj:es[j]?=some y:=by rw [←Array.getElem?_toList];exact f2
  have hjl:j<es.toList.length:=(List.getElem?_eq_some_iff.1 f2).1
  have hjf:j<fps.length:=by omega
  have hset:=MapKept.run_setObj_map (P:=P) (.map (es.modify j fun e=>{ e with key:=.int .i64 x,val:=g.v }) c) hb
  have hmod:(es.modify j fun e=>{ e with key:=.int .i64 x,val:=g.v }).toList=es.toList.modify j fun e=>{ e with key:=.int .i64 x,val:=g.v }:=Array.toList_modify ..
  refine .mk ⟨_,?_,go (es.modify j fun e=>{ e with key:=.int .i64 x,val:=g.v }) c ks (fps.set j fl) ?_ k3 ?_ ?_ ?_ (fun c hc=>.inl hc) ?_⟩
  · simp [Instr.mapUpdate,run_underlying ht,MapKept.run_getObj_map hb,hch,hfk,hj,f3,hst,hset,Result.andThen]
  ·
   rw [hmod,← k2]
   refine List.ext_getElem? fun i=>?_
   rw [List.getElem?_map,List.getElem?_map,List.getElem?_modify]
   by_cases hij:j=i
   ·
    subst hij
    simp [f2,f3]
   · simp [hij]
  · rw [hmod,List.length_set,List.length_modify,k4]
  · exact jT hjf n2 n1 (fun z hz=>.inr fun h=>n3 z hz z h rfl)
  ·
   intro z hz
   obtain ⟨f,hf,hzf⟩:=List.mem_flatten.1 hz
   rcases List.mem_or_eq_of_mem_set hf with h | h
   · exact .inr (List.mem_flatten.2 ⟨f,h,hzf⟩)
   · exact .inl (h ▸ hzf)
  ·
   intro i z f hi hf
   rw [hmod,List.getElem?_modify] at hi
   by_cases hij:j=i
   ·
    subst hij
    rw [f2] at hi
    simp only [if_pos,Option.map_eq_map,Option.map_some,Option.some.injEq] at hi
    subst hi
    rw [List.getElem?_set_self hjf] at hf
    obtain rfl:=Option.some.inj hf
    exact ⟨l,g,rfl,hl,hown⟩
   ·
    have hi:es.toList[i]?=some z:=by simpa [hij] using hi
    rw [List.getElem?_set_ne hij] at hf
    rcases k7 i z f hi hf with ⟨q,hq,hz,_⟩ | ⟨l',g',a1,a2,a3⟩
    ·
     obtain rfl:=Option.some.inj hq
     exact (hij (I8_ k2 k3 f2 hi (f3.trans hz.symm))).elim
    · exact ⟨l',g',a1,Nat.le_trans a2 hN,a3⟩
theorem map_erase {α β:Type} (f:α→β):∀ (l:List α) (j:Nat),(l.eraseIdx j).map f=(l.map f).eraseIdx j
 | [],_=>rfl
 | _::_,0=>rfl
 | a::l,j+1=>congrArg (f a::·) (map_erase f l j)
theorem JJ_ {b:Nat}{fps:List (List Nat)} (j:Nat) (h:(b::fps.flatten).Nodup):(b::(fps.eraseIdx j).flatten).Nodup:=by
 obtain ⟨h1,h2⟩:=List.nodup_cons.1 h
 have hs:=vQ (List.eraseIdx_sublist fps j)
 exact List.nodup_cons.2 ⟨fun hb=>h1 (hs.subset hb),h2.sublist hs⟩
theorem delML {t k e ty:Nat}{b:Nat}{ks:List Int}{N:Nat}{x:Int}{K:Value→World→Prop} (ht:P.underlying t=some (.map k e)) (hk:P.underlying k=some (.int .i64)) (H:Cx w0 F S0 w (EML b ks N none::Γ))
  (hK:∀ (w':World) (ks':List Int),(∀ c∈ks',c∈ks∧c≠x)→Cx w0 F S0 w' (EML b ks' N none::Γ)→K (.tuple #[]) w'):ERun P (Builtin.delete_ #[t,k] ty #[.map (some b),.int .i64 x]) w K:=by
 obtain ⟨S,f1,h1,h2⟩:=Cx.frame (Γ1:=[EML b ks N none]) H
 obtain ⟨fm,r',hfr',⟨es,c,fps,hb,k2,k3,k4,k5,k6,k7⟩,hrr⟩:=h1.all
 have hrr:r'=[]:=hrr
 subst hrr hfr' k5
 have hkey:MapKept.IsKey (.int .i64) (.int .i64 x):=rfl
 have hch:=fun e0=>MapKept.run_checkKey (P:=P) (w:=w) hk (k:=.int .i64 x) hkey e0 9999
 have hnd:=h1.nd
 rw [List.append_nil] at hnd
 have hbS:¬S b:=(h1.out b (by simp)).1
 have go:∀ (es':Array MapEntry) (ks':List Int) (fps':List (List Nat)),es'.toList.map (·.key)=ks'.map (Value.int .i64)→ks'.Nodup→fps'.length=es'.toList.length→(b::fps'.flatten).Nodup→(∀ y∈fps'.flatten,y∈fps.flatten)→(∀ c∈ks',c∈ks∧c≠x) →
   (∀ (i:Nat) (z:MapEntry) (f:List Nat),es'.toList[i]?=some z→fps'[i]?=some f→∃ (l:List Int) (g:Hd),z.val=g.v∧l.length≤N∧own w S f l g)→K (.tuple #[]) { w with heap:=w.heap.setIfInBounds b (.map es' c) }:=by
  intro es' ks' fps' q1 q2 q3 q4 q5 q6 q7
  have hh:=MapKept.heap_set (o':=.map es' c) hb
  have hu:Upd ((b::fps.flatten)++[]) w { w with heap:=w.heap.setIfInBounds b (.map es' c) }:=⟨rfl,rfl,rfl,by simp,fun y _ hy=>hh.2 y (fun e=>hy (by rw [e];simp))⟩
  have hk1:∀ y,y≠b→({ w with heap:=w.heap.setIfInBounds b (.map es' c) }:World).heap[y]?=w.heap[y]?:=fun y hy=>hh.2 y hy
  refine hK _ ks' q6 (h2 _ [EML b ks' N none] ⟨S,b::fps'.flatten,⟨hu,fun _ h=>h,fun y hy=>⟨?_,.inl hy⟩,⟨b::fps'.flatten,[],by simp,⟨es',c,fps',hh.1,q1,q2,q3,rfl,q4,fun i z f hi hf=>?_⟩,rfl⟩,q4,fun y hy=>?_⟩⟩)
  ·
   have:=(h1.sb y hy).1
   simpa using this
  ·
   obtain ⟨l',g',a1,a2,a3⟩:=q7 i z f hi hf
   refine .inr ⟨l',g',a1,a2,own_keep (fun y hy=>hk1 y (fun e=>hbS (e ▸ hy))) (fun y hy=>hk1 y (fun e=>?_)) a3⟩
   subst e
   exact (List.nodup_cons.1 q4).1 (BH_ hf hy)
  ·
   rcases List.mem_cons.1 hy with rfl | hy
   · exact h1.out _ (by simp)
   · exact h1.out _ (List.mem_append_left _ (List.mem_cons_of_mem _ (q5 y hy)))
 have hall:∀ (i:Nat) (z:MapEntry) (f:List Nat),es.toList[i]?=some z→fps[i]?=some f→∃ (l:List Int) (g:Hd),z.val=g.v∧l.length≤N∧own w S f l g:=fun i z f hi hf=>by
  rcases k7 i z f hi hf with ⟨_,h,_⟩ | h
  · cases h
  · exact h
 rcases MapKept.findNow_spec (d:=.int .i64) (k:=.int .i64 x) hkey es.toList 0 (keysL k2) with ⟨f1,f2⟩ | ⟨j,y,f1,f2,f3⟩
 ·
  have hfk:=MapKept.run_findKey (P:=P) (w:=w) hk f1
  have hset:=MapKept.run_setObj_map (P:=P) (.map es c) hb
  refine cC (v:=.tuple #[]) (w':={ w with heap:=w.heap.setIfInBounds b (.map es c) }) ?_ (go es ks fps k2 k3 k4 hnd (fun _ h=>h) (fun c hc=>⟨hc,fun e=>E5_ k2 f2 (e ▸ hc)⟩) hall)
  simp [Builtin.delete_,run_underlying ht,MapKept.run_getObj_map hb,hch,hfk,hset,Result.andThen]
 ·
  have hfk:=MapKept.run_findKey (P:=P) (w:=w) hk f1
  have hjl:j<es.toList.length:=(List.getElem?_eq_some_iff.1 f2).1
  have hjs:j<es.size:=by simpa using hjl
  have hsub:(es.eraseIdxIfInBounds j).toList=es.toList.eraseIdx j:=by
   unfold Array.eraseIdxIfInBounds
   rw [dif_pos hjs]
   simp
  have hset:=MapKept.run_setObj_map (P:=P) (.map (es.eraseIdxIfInBounds j) c) hb
  obtain ⟨c0,hc0,hyc⟩:=Bs_ k2 f2
  have hcx:c0=x:=by rw [hyc] at f3;injection f3
  refine cC (v:=.tuple #[]) (w':={ w with heap:=w.heap.setIfInBounds b (.map (es.eraseIdxIfInBounds j) c) }) ?_ (go (es.eraseIdxIfInBounds j) (ks.eraseIdx j) (fps.eraseIdx j) ?_ (k3.sublist (List.eraseIdx_sublist _ _)) ?_ (JJ_ j hnd) (fun y hy=>(vQ (List.eraseIdx_sublist fps j)).subset hy) (fun z hz=>⟨(List.eraseIdx_sublist _ _).subset hz,?_⟩) ?_)
  · simp [Builtin.delete_,run_underlying ht,MapKept.run_getObj_map hb,hch,hfk,hset,Result.andThen]
  · rw [hsub,map_erase,k2,map_erase]
  · rw [hsub,List.length_eraseIdx,List.length_eraseIdx,k4]
  ·
   rintro rfl
   obtain ⟨i,hi,hij,e⟩:=List.mem_eraseIdx_iff_getElem.1 hz
   obtain ⟨a1,a2⟩:=List.getElem?_eq_some_iff.1 hc0
   exact hij ((List.getElem_inj k3).1 (e.trans (hcx.symm.trans a2.symm)))
  ·
   intro i z f hi hf
   rw [hsub,List.getElem?_eraseIdx] at hi
   rw [List.getElem?_eraseIdx] at hf
   split at hi
   ·
    rename_i h
    rw [if_pos h] at hf
    exact hall i z f hi hf
   ·
    rename_i h
    rw [if_neg h] at hf
    exact hall (i+1) z f hi hf
def EIt (b r:Nat):Ent:=⟨fun w _ fp=>fp=[r,b]∧∃ clock since seen last,w.heap[b]?=some (.map #[] clock)∧w.heap[r]?=some (.mapIter (some b) since seen last)∧since≤last,
 fun _ h=>h,
 fun _ hf ⟨h,c,s,e,l,h1,h2,h3⟩=>⟨h,c,s,e,l,(hf b (by rw [h];simp)).trans h1,(hf r (by rw [h];simp)).trans h2,h3⟩,
 fun ⟨h,c,s,e,l,h1,h2,h3⟩ y hy=>by
  rw [h] at hy
  simp only [List.mem_cons,List.not_mem_nil,or_false] at hy
  rcases hy with rfl | rfl
  · exact yG h2
  · exact yG h1⟩
theorem rangeML {t k e:Nat}{b:Nat}{N:Nat}{K:Value→World→Prop} (ht:P.underlying t=some (.map k e)) (H:Cx w0 F S0 w (EML b [] N none::Γ)) (hK:∀ r w',Cx w0 F S0 w' (EIt b r::Γ)→K (.pointer (some ⟨r,0,none⟩)) w'):ERun P (Instr.range t (.map (some b))) w K:=by
 obtain ⟨S,f1,h1,h2⟩:=Cx.frame (Γ1:=[EML b [] N none]) H
 obtain ⟨fm,r',hfr',⟨es,c,fps,hb,k2,k3,k4,k5,k6,k7⟩,hrr⟩:=h1.all
 have hrr:r'=[]:=hrr
 subst hrr hfr' k5
 have he:es=#[]:=by
  have h:es.toList=[]:=List.map_eq_nil_iff.1 k2
  exact Array.toList_inj.1 (by simpa using h)
 subst he
 have hf:fps=[]:=List.length_eq_zero_iff.1 k4
 subst hf
 have hbl:=yG hb
 refine cC (v:=.pointer (some ⟨w.heap.size,0,none⟩)) (w':=w.alloc (.mapIter (some b) c #[] c)) ?_ (hK _ _ (h2 _ [EIt b w.heap.size] ⟨S,[w.heap.size,b],⟨(Upd.alloc w _).mono (fun _ h=>by cases h),fun _ h=>h,fun y hy=>⟨?_,.inl hy⟩,⟨[w.heap.size,b],[],rfl,⟨rfl,c,c,#[],c,?_,heap_alloc_new w _,Nat.le_refl _⟩,rfl⟩,?_,fun y hy=>?_⟩⟩))
 ·
  simp [Instr.range,run_underlying ht,MapKept.run_getObj_map hb,newObj,Result.andThen]
  rfl
 · exact Nat.lt_of_lt_of_le (h1.sb y hy).1 (Upd.alloc w _).size
 · rw [(Upd.alloc w _).block b hbl (by simp)];exact hb
 · simp;omega
 ·
  simp only [List.mem_cons,List.not_mem_nil,or_false] at hy
  rcases hy with rfl | rfl
  ·
   refine ⟨fun hS=>?_,.inr (Nat.le_refl _)⟩
   have:=(h1.sb _ hS).1;omega
  · exact h1.out _ (by simp)
theorem nextML {ty:Nat}{b r:Nat}{K:Value→World→Prop} (H:Cx w0 F S0 w (EIt b r::Γ)) (hK:K (.tuple #[.bool false]) w):ERun P (Instr.next (.pointer (some ⟨r,0,none⟩)) false ty) w K:=by
 obtain ⟨S,fp,_,c,since,seen,last,hb,hr,h3⟩:=H.at_ 0 rfl
 rcases run_next_at (P:=P) w ty r b since last seen #[] c hr hb (fun x hx=>by simp at hx) h3 with ⟨_,hrun⟩ | ⟨e,he,_⟩
 · exact cC hrun hK
 ·
  have:=(mem_left he).1
  simp at this
end
end Go.Proofs.YtodfjigndedehaaGreatDoor.RW
