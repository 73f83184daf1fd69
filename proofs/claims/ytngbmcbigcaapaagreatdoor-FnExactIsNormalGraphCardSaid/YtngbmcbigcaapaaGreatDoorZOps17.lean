/-
  Maps from int to int that a call makes for itself: made, asked, turned, walked in whatever order. Conditions: the engine's eD holds ('EngOk').
-/
import Derived.Test.YtngbmcbigcaapaaGreatDoorZOps16
import Derived.Test.YtngbmcbigcaapaaGreatDoorZF
import Derived.MapKept
import Derived.ChangeMaps4
import Derived.Maps.RangeRun
namespace Go.Proofs.YtngbmcbigcaapaaGreatDoor.RW
open Go
open Rep RepZ
structure Mh where
 b:Nat
def Mh.v (h:Mh):Value:=.map (some h.b)
def nH (p:Int×Int):Value×Value:=(.int .i64 p.1,.int .i64 p.2)
def MRow (w:World) (b:Nat) (l:List (Int×Int)):Prop:=∃ es clock,w.heap[b]?=some (.map es clock)∧es.toList.map (fun x=>(x.key,x.val))=l.map nH∧gG l∧(es.toList.map (·.born)).Nodup∧∀ x∈es.toList,x.born<clock
theorem MRow.keep {w w':World}{b:Nat}{l:List (Int×Int)} (h:MRow w b l) (hb:w'.heap[b]?=w.heap[b]?):MRow w' b l:=by
 obtain ⟨es,c,h1,h2⟩:=h
 exact ⟨es,c,hb.trans h1,h2⟩
instance:Rep MI where
 Gh:=Mh
 sz:=1
 agg:=false
 cl _ g:=[g.v]
 rd w S m g:=S g.b∧MRow w g.b m.kvs
 own w _ fp m g:=fp=[g.b]∧MRow w g.b m.kvs
 cl_len _ _:=rfl
 cl_one _ _ u hu:=by simp at hu;subst hu;rfl
 rd_mono hS h:=⟨hS _ h.1,h.2⟩
 rd_keep hS h:=⟨h.1,h.2.keep (hS _ h.1)⟩
 own_rd h:=⟨.inr (by rw [h.1];simp),h.2⟩
 own_mono _ h:=h
 own_keep _ hf h:=⟨h.1,h.2.keep (hf _ (by rw [h.1];simp))⟩
 own_lt h b hb:=by
  obtain ⟨h1,es,c,h2,_⟩:=h
  rw [h1] at hb;simp at hb;subst hb
  exact zE h2
 own_nd h:=by rw [h.1];simp
 cl_inj _ g g' h:=by
  cases g;cases g'
  simp [Mh.v] at h
  rw [h]
instance:Closed MI:=⟨fun h=>h⟩
section
variable {P:Program}{G:Eng}{w0 w:World}{F:List Nat}{S0:Nat→Prop}{Γ:List Ent}
theorem mkM {t:Nat}{K:Value→World→Prop} (H:Cx w0 F S0 w Γ) (hK:∀ (h:Mh) w',Ext w w'→Cx w0 F S0 w' (E MI ⟨[]⟩ h::Γ)→K h.v w'):ERun P (Instr.makeMap t none) w K:=
 wB (v:=.map (some w.heap.size)) (w':=w.alloc (.map #[] 0)) (RowKit.run_makeMap t w)
  (hK ⟨w.heap.size⟩ _ (Upd.alloc w _) (H.new (f:=[w.heap.size]) (Upd.alloc w _) (fun S _=>⟨rfl,#[],0,(MapKept.heap_alloc w _).1,rfl,List.nodup_nil,List.nodup_nil,fun x hx=>by cases hx⟩) (by simp) (by simp)))
theorem keysI {es:List MapEntry}{l:List (Int×Int)} (h:es.map (fun x=>(x.key,x.val))=l.map nH):∀ x∈es,MapKept.IsKey (.int .i64) x.key:=by
 intro x hx
 have:(x.key,x.val)∈l.map nH:=by rw [←h];exact List.mem_map_of_mem hx
 obtain ⟨s,_,e⟩:=List.mem_map.1 this
 have e:=congrArg Prod.fst e
 show MapKept.IsKey _ x.key
 rw [←show (Value.int .i64 s.1)=x.key from e];rfl
theorem A8_:∀ {l:List (Int×Int)}{k:Int},(∀ p∈l,p.1≠k)→getL l k=0
 | [],_,_=>rfl
 | p::l,k,h=>by
  unfold getL
  rw [if_neg (h p (.head _))]
  exact A8_ fun q hq=>h q (.tail _ hq)
theorem Co_:∀ {l:List (Int×Int)}{k v:Int}{j:Nat},gG l→l[j]?=some (k,v)→getL l k=v
 | p::l,k,v,0,_,h=>by
  obtain rfl:=Option.some.inj h
  unfold getL;rw [if_pos rfl]
 | p::l,k,v,j+1,hk,h=>by
  obtain ⟨h1,h2⟩:=List.nodup_cons.1 hk
  unfold getL
  rw [if_neg (fun e=>h1 (by show p.1∈_;rw [e];exact List.mem_map.2 ⟨(k,v),List.mem_of_getElem? h,rfl⟩))]
  exact Co_ (j:=j) h2 h
theorem Cw_ {es:List MapEntry}{l:List (Int×Int)}{j:Nat}{x:MapEntry} (h:es.map (fun x=>(x.key,x.val))=l.map nH) (hx:es[j]?=some x):∃ p,l[j]?=some p∧x.key=.int .i64 p.1∧x.val=.int .i64 p.2:=by
 have:=congrArg (fun q=>q[j]?) h
 simp only [List.getElem?_map,hx,Option.map_some] at this
 cases hl:l[j]? with
 | none=>rw [hl] at this;cases this
 | some p=>
  rw [hl] at this
  have:=Option.some.inj this
  exact ⟨p,rfl,congrArg Prod.fst this,congrArg Prod.snd this⟩
theorem BR_ {es:List MapEntry}{l:List (Int×Int)}{j:Nat}{p:Int×Int} (h:es.map (fun x=>(x.key,x.val))=l.map nH) (hp:l[j]?=some p):∃ x,es[j]?=some x∧x.key=.int .i64 p.1∧x.val=.int .i64 p.2:=by
 have:=congrArg (fun q=>q[j]?) h
 simp only [List.getElem?_map,hp,Option.map_some] at this
 cases hl:es[j]? with
 | none=>rw [hl] at this;cases this
 | some x=>
  rw [hl] at this
  have:=Option.some.inj this
  exact ⟨x,rfl,congrArg Prod.fst this,congrArg Prod.snd this⟩
theorem A0_:∀ {l:List (Int×Int)}{k v:Int},(∀ p∈l,p.1≠k)→gF l k v=l++[(k,v)]
 | [],_,_,_=>rfl
 | p::l,k,v,h=>by
  unfold gF
  rw [if_neg (h p (.head _)),A0_ fun q hq=>h q (.tail _ hq)]
  rfl
theorem Cd_:∀ {l:List (Int×Int)}{k v u:Int}{j:Nat},gG l→l[j]?=some (k,u)→gF l k v=l.modify j fun _=>(k,v)
 | p::l,k,v,u,0,_,h=>by
  obtain rfl:=Option.some.inj h
  unfold gF;rw [if_pos rfl];rfl
 | p::l,k,v,u,j+1,hk,h=>by
  obtain ⟨h1,h2⟩:=List.nodup_cons.1 hk
  unfold gF
  rw [if_neg (fun e=>h1 (by show p.1∈_;rw [e];exact List.mem_map.2 ⟨(k,u),List.mem_of_getElem? h,rfl⟩)),Cd_ (j:=j) h2 h]
  rfl
theorem qO {α β:Type} (f:α→β) (g:α→α) (g':β→β) (hg:∀ a,f (g a)=g' (f a)):∀ (l:List α) (j:Nat),(l.modify j g).map f=(l.map f).modify j g'
 | [],_=>by simp
 | a::l,0=>by simp [hg]
 | a::l,j+1=>by simp [qO f g g' hg l j]
theorem updM {t k e:Nat}{m:MI}{g:Mh}{x v:Int}{K:World→Prop} (ht:P.underlying t=some (.map k e)) (hk:P.underlying k=some (.int .i64)) (H:Cx w0 F S0 w (E MI m g::Γ)) (hK:∀ w',Cx w0 F S0 w' (E MI (lH m x v) g::Γ)→K w'):EDo P (Instr.mapUpdate t g.v (.int .i64 x) (.int .i64 v)) w K:=by
 obtain ⟨S,f1,h1,h2⟩:=Cx.frame (Γ1:=[E MI m g]) H
 obtain ⟨f,r,hfr,⟨hf,es,c,hb,k1,k2,k3,k4⟩,hrr⟩:=h1.all
 have hrr:r=[]:=hrr
 subst hf hrr hfr
 have hkey:MapKept.IsKey (.int .i64) (.int .i64 x):=rfl
 have hch:=MapKept.run_checkKey (P:=P) (w:=w) hk (k:=.int .i64 x) hkey false 9999
 have hput:=(A1_ m.kvs x v k2).1
 have go:∀ o',(∃ es' c',o'=Obj.map es' c'∧es'.toList.map (fun x=>(x.key,x.val))=(gF m.kvs x v).map nH∧(es'.toList.map (·.born)).Nodup∧∀ y∈es'.toList,y.born<c') →
   K { w with heap:=w.heap.setIfInBounds g.b o' }:=by
  rintro o' ⟨es',c',rfl,q1,q2,q3⟩
  have hh:=MapKept.heap_set (o':=.map es' c') hb
  have hu:Upd [g.b] w { w with heap:=w.heap.setIfInBounds g.b (.map es' c') }:=⟨rfl,rfl,rfl,by simp,fun x _ hx=>hh.2 x (by simpa using hx)⟩
  refine hK _ (h2 _ [E MI (lH m x v) g] ⟨S,[g.b],⟨hu,fun _ h=>h,fun y hy=>⟨?_,.inl hy⟩,⟨[g.b],[],rfl,⟨rfl,_,_,hh.1,q1,hput,q2,q3⟩,rfl⟩,by simp,fun y hy=>h1.out y hy⟩⟩)
  have:=(h1.sb y hy).1
  simpa using this
 rcases MapKept.findNow_spec (d:=.int .i64) (k:=.int .i64 x) hkey es.toList 0 (keysI k1) with ⟨f1,f2⟩ | ⟨j,y,f1,f2,f3⟩
 ·
  have hfk:=MapKept.run_findKey (P:=P) (w:=w) hk f1
  have hset:=MapKept.run_setObj_map (P:=P) (.map (es.push { key:=.int .i64 x,val:=.int .i64 v,born:=c }) (c+1)) hb
  refine .mk ⟨_,?_,go (.map (es.push { key:=.int .i64 x,val:=.int .i64 v,born:=c }) (c+1)) ⟨_,_,rfl,?_,?_,?_⟩⟩
  · simp [Instr.mapUpdate,Mh.v,run_underlying ht,MapKept.run_getObj_map hb,hch,hfk,hset,Result.andThen]
  ·
   rw [A0_ fun p hp e=>?_]
   · simp [k1,nH]
   ·
    obtain ⟨j,hj⟩:=List.getElem?_of_mem hp
    obtain ⟨y,hy,e1,_⟩:=BR_ k1 hj
    exact f2 y (List.mem_of_getElem? hy) (by rw [e1,e])
  ·
   simp only [Array.toList_push,List.map_append,List.map_cons,List.map_nil]
   refine List.nodup_append.2 ⟨k3,by simp,?_⟩
   intro a ha b hb' e
   simp only [List.mem_cons,List.not_mem_nil,or_false] at hb'
   obtain ⟨z,hz,rfl⟩:=List.mem_map.1 ha
   have:=k4 z hz
   omega
  ·
   intro z hz
   simp at hz
   rcases hz with hz | rfl
   · have:=k4 z (by simpa using hz);omega
   · simp
 ·
  have hfk:=MapKept.run_findKey (P:=P) (w:=w) hk f1
  have hst:=MapKept.run_keyThatStays (P:=P) (w:=w) hkey
  have hj:es[j]?=some y:=by rw [←Array.getElem?_toList];exact f2
  obtain ⟨p,hp,e1,e2⟩:=Cw_ k1 f2
  have hpx:p.1=x:=by rw [e1] at f3;injection f3
  have hset:=MapKept.run_setObj_map (P:=P) (.map (es.modify j fun e=>{ e with key:=.int .i64 x,val:=.int .i64 v }) c) hb
  refine .mk ⟨_,?_,go (.map (es.modify j fun e=>{ e with key:=.int .i64 x,val:=.int .i64 v }) c) ⟨_,_,rfl,?_,?_,?_⟩⟩
  · simp [Instr.mapUpdate,Mh.v,run_underlying ht,MapKept.run_getObj_map hb,hch,hfk,hj,f3,hst,hset,Result.andThen]
  ·
   rw [Cd_ (j:=j) (u:=p.2) k2 (by rw [hp,← hpx]),Array.toList_modify,qO (fun y:MapEntry=>(y.key,y.val)) (fun e=>{ e with key:=.int .i64 x,val:=.int .i64 v }) (fun _=>(Value.int .i64 x,Value.int .i64 v)) (fun _=>rfl),k1,
    qO nH (fun _=>(x,v)) (fun _=>(Value.int .i64 x,Value.int .i64 v)) (fun _=>rfl)]
  ·
   rw [Array.toList_modify,qO (fun y:MapEntry=>y.born) (fun e=>{ e with key:=.int .i64 x,val:=.int .i64 v }) id (fun _=>rfl),List.modify_id]
   exact k3
  ·
   intro z hz
   rw [Array.toList_modify] at hz
   have:z.born∈(es.toList.modify j fun e=>{ e with key:=.int .i64 x,val:=.int .i64 v }).map (·.born):=List.mem_map_of_mem hz
   rw [qO (fun y:MapEntry=>y.born) (fun e=>{ e with key:=.int .i64 x,val:=.int .i64 v }) id (fun _=>rfl),List.modify_id] at this
   simp only [List.mem_map] at this
   obtain ⟨u,hu,e⟩:=this
   rw [←e];exact k4 u hu
end
def dec (e:MapEntry):Int×Int:=(match e.key with | .int _ x=>x | _=>0,match e.val with | .int _ x=>x | _=>0)
def EInt (e:MapEntry):Prop:=e.key=.int .i64 (dec e).1∧e.val=.int .i64 (dec e).2
theorem eint_of {es:List MapEntry}{l:List (Int×Int)} (h:es.map (fun x=>(x.key,x.val))=l.map nH):(∀ x∈es,EInt x)∧es.map dec=l:=by
 have hx:∀ x∈es,EInt x:=fun x hx=>by
  have:(x.key,x.val)∈l.map nH:=by rw [←h];exact List.mem_map_of_mem hx
  obtain ⟨p,_,e⟩:=List.mem_map.1 this
  have e1:Value.int .i64 p.1=x.key:=congrArg Prod.fst e
  have e2:Value.int .i64 p.2=x.val:=congrArg Prod.snd e
  unfold EInt dec
  rw [←e1,← e2]
  exact ⟨rfl,rfl⟩
 refine ⟨hx,?_⟩
 have h2:=congrArg (List.map fun q:Value×Value=>(match q.1 with | .int _ x=>x | _=>(0:Int),match q.2 with | .int _ x=>x | _=>(0:Int))) h
 rw [List.map_map,List.map_map] at h2
 rw [show (es.map dec)=_ from h2]
 conv=>rhs;rw [←List.map_id l]
 rfl
def ItR (w:World) (b r:Nat) (c:Option (Int×Int)) (lf:List (Int×Int)):Prop:=
 ∃ es clock since seen last,w.heap[b]?=some (.map es clock)∧w.heap[r]?=some (.mapIter (some b) since seen last)∧(∀ x∈es.toList,EInt x)∧(es.toList.map (·.born)).Nodup∧(∀ x∈es.toList,x.born<since)∧since≤clock∧since≤last ∧
  lf=(leftOf es seen).toList.map dec∧(∀ p,c=some p→∃ e∈es.toList,∃ s0:Array Nat,seen=s0.push e.born∧last=clock∧dec e=p)
def It (h:Mh) (r:Nat) (c:Option (Int×Int)) (lf:List (Int×Int)):Ent:=⟨fun w S fp=>fp=[r]∧S h.b∧ItR w h.b r c lf,
 fun hS k=>⟨k.1,hS _ k.2.1,k.2.2⟩,
 fun hS hf k=>by
  obtain ⟨k1,k2,es,c,since,seen,last,q1,q2,q3⟩:=k
  exact ⟨k1,k2,es,c,since,seen,last,(hS _ k2).trans q1,(hf _ (by rw [k1];simp)).trans q2,q3⟩,
 fun k b hb=>by
  obtain ⟨k1,_,es,c,since,seen,last,_,q2,_⟩:=k
  rw [k1] at hb;simp at hb;subst hb
  exact zE q2⟩
section
variable {P:Program}{G:Eng}{w0 w:World}{F:List Nat}{S0:Nat→Prop}{Γ:List Ent}
theorem Cx.newS {w':World}{e:Ent}{f:List Nat} (H:Cx w0 F S0 w Γ) (hu:Ext w w') (he:∀ S fp,(∀ b,S b→b<w.heap.size)→All w S Γ fp→e.h w' S f) (hf:∀ b∈f,w.heap.size≤b) (hn:f.Nodup):Cx w0 F S0 w' (e::Γ):=by
 obtain ⟨S,fp,H⟩:=H
 refine ⟨S,f++fp,H.upd.trans0 hu,H.s0,fun b hb=>⟨Nat.lt_of_lt_of_le (H.sb b hb).1 hu.size,(H.sb b hb).2⟩,⟨f,fp,rfl,he S fp (fun b hb=>(H.sb b hb).1) H.all,H.all.keep (fun b hb=>hu.block b (H.sb b hb).1 (by simp)) (fun b hb=>hu.block b (H.all.lt b hb) (by simp))⟩,List.nodup_append.2 ⟨hn,H.nd,fun b hb c hc=>?_⟩,fun b hb=>?_⟩
 ·
  rintro rfl
  have:=H.all.lt b hc;have:=hf b hb;omega
 ·
  rcases List.mem_append.1 hb with h | h
  ·
   refine ⟨fun hS=>?_,.inr (Nat.le_trans H.upd.size (hf b h))⟩
   have:=(H.sb b hS).1;have:=hf b h;omega
  · exact H.out b h
theorem qY {t k e:Nat}{m:MI}{g:Mh}{K:Value→World→Prop} (ht:P.underlying t=some (.map k e)) (H:Cx w0 F S0 w Γ) (i:Nat) (hi:entAt Γ i=Es MI m g) (hK:∀ r w',Ext w w'→gG m.kvs→Cx w0 F S0 w' (It g r none m.kvs::Γ)→K (.pointer (some ⟨r,0,none⟩)) w'):ERun P (Instr.range t g.v) w K:=by
 have hr:=H.rs i hi
 obtain ⟨S,hS,es,c,hb,h1,h2,h3,h4⟩:=hr
 obtain ⟨q1,q2⟩:=eint_of h1
 refine wB (v:=.pointer (some ⟨w.heap.size,0,none⟩)) (w':=w.alloc (.mapIter (some g.b) c #[] c)) ?_ (hK _ _ (Upd.alloc w _) h2 (H.newS (f:=[w.heap.size]) (Upd.alloc w _) ?_ (by simp) (by simp)))
 ·
  simp [Instr.range,Mh.v,run_underlying ht,MapKept.run_getObj_map hb,newObj,Result.andThen]
  rfl
 ·
  intro S fp hlt hall
  obtain ⟨f,hf,_⟩:=hall.ent i
  rw [hi] at hf
  have hSb:S g.b:=hf.2.1
  refine ⟨rfl,hSb,es,c,c,#[],c,?_,heap_alloc_new w _,q1,h3,h4,Nat.le_refl _,Nat.le_refl _,?_,fun p hp=>by cases hp⟩
  · rw [(Upd.alloc w _).block g.b (hlt _ hSb) (by simp)];exact hb
  ·
   unfold leftOf
   rw [show (es.filter fun e=>!(#[]:Array Nat).contains e.born)=es from Array.filter_eq_self.2 (fun x _=>by simp)]
   exact q2.symm
theorem FG_ {es:Array MapEntry}{seen:Array Nat}{e:MapEntry} (hn:(es.toList.map (·.born)).Nodup) (he:e∈(leftOf es seen).toList) :
  (leftOf es seen).toList.Perm (e::(leftOf es (seen.push e.born)).toList):=by
 unfold leftOf at he ⊢
 simp only [Array.toList_filter] at he ⊢
 generalize es.toList=l at hn he ⊢
 induction l with
 | nil=>cases he
 | cons x l ih=>
  obtain ⟨n1,n2⟩:=List.nodup_cons.1 hn
  by_cases hx:x=e
  ·
   subst hx
   have hs:(!seen.contains x.born)=true:=(List.mem_filter.1 he).2
   have:l.filter (fun e=>!(seen.push x.born).contains e.born)=l.filter (fun e=>!seen.contains e.born):=by
    refine List.filter_congr fun y hy=>?_
    have:¬y.born=x.born:=fun h=>n1 (by show x.born∈_;rw [←h];exact List.mem_map_of_mem hy)
    simp [this]
   rw [List.filter_cons_of_pos (p:=fun e:MapEntry=>!seen.contains e.born) hs,List.filter_cons_of_neg (p:=fun e:MapEntry=>!(seen.push x.born).contains e.born) (by simp),this]
  ·
   have he':e∈l.filter (fun e=>!seen.contains e.born):=by
    obtain ⟨h1,h2⟩:=List.mem_filter.1 he
    rcases List.mem_cons.1 h1 with h | h
    · exact (hx h.symm).elim
    · exact List.mem_filter.2 ⟨h,h2⟩
   have ih:=ih n2 he'
   have hb:¬x.born=e.born:=fun h=>n1 (by show x.born∈_;rw [h];exact List.mem_map_of_mem (List.mem_filter.1 he').1)
   by_cases hs:(!seen.contains x.born)=true
   ·
    rw [List.filter_cons_of_pos (p:=fun e:MapEntry=>!seen.contains e.born) hs,List.filter_cons_of_pos (p:=fun y:MapEntry=>!(seen.push e.born).contains y.born) (by simpa [hb] using hs)]
    exact (List.Perm.cons _ ih).trans (List.Perm.swap _ _ _)
   ·
    rw [List.filter_cons_of_neg (p:=fun e:MapEntry=>!seen.contains e.born) hs,List.filter_cons_of_neg (p:=fun y:MapEntry=>!(seen.push e.born).contains y.born) (by simpa [hb] using hs)]
    exact ih
theorem nextM {ty:Nat}{g:Mh}{r:Nat}{c:Option (Int×Int)}{lf:List (Int×Int)}{K:Value→World→Prop} (H:Cx w0 F S0 w (It g r c lf::Γ)) (hne:lf≠[]) (hK:∀ (k v:Int) lf' w',lf.Perm ((k,v)::lf')→Cx w0 F S0 w' (It g r (some (k,v)) lf'::Γ)→K (.tuple #[.bool true,.int .i64 k,.int .i64 v]) w'):ERun P (Instr.next (.pointer (some ⟨r,0,none⟩)) false ty) w K:=by
 obtain ⟨S,f1,h1,h2⟩:=Cx.frame (Γ1:=[It g r c lf]) H
 obtain ⟨f,q,hfq,⟨hf,hS,es,clock,since,seen,last,hb,hr,k1,k2,k3,k4,k5,k6,k7⟩,hqq⟩:=h1.all
 have hqq:q=[]:=hqq
 subst hf hqq hfq
 rcases run_next_at (P:=P) w ty r g.b since last seen es clock hr hb k3 k5 with ⟨h0,_⟩ | ⟨e,he,w1,hw1,hrun⟩
 · exact (hne (by rw [k6,Array.eq_empty_of_size_eq_zero h0];rfl)).elim
 ·
  have hx1:Ext w w1:=by
   rcases hw1 with rfl | rfl
   · exact Upd.refl _ _
   · exact Upd.drew w
  have hem:=(mem_left he).1
  have hne':g.b≠r:=fun h=>(h1.out r (by simp)).1 (h ▸ hS)
  have hr1:r<w1.heap.size:=by
   have:=zE hr
   exact Nat.lt_of_lt_of_le this hx1.size
  have hh:∀ b,b≠r→(ChangeMaps.setBlock w1 r (.mapIter (some g.b) since (seen.push e.born) clock)).heap[b]?=w1.heap[b]?:=fun b hb=>by
   simp only [ChangeMaps.setBlock]
   rw [Array.getElem?_setIfInBounds_ne (fun h=>hb h.symm)]
  have hu:Upd [r] w (ChangeMaps.setBlock w1 r (.mapIter (some g.b) since (seen.push e.born) clock)):=
   ⟨hx1.os,hx1.tape,hx1.output,by simpa [ChangeMaps.setBlock] using hx1.size,fun b hb hbr=>by rw [hh b (by simpa using hbr)];exact hx1.block b hb (by simp)⟩
  have hE:=k1 e hem
  rw [hE.1,hE.2] at hrun
  refine wB hrun (hK (dec e).1 (dec e).2 ((leftOf es (seen.push e.born)).toList.map dec) _ ?_ (h2 _ [It g r (some ((dec e).1,(dec e).2)) _] ⟨S,[r],⟨hu,fun _ h=>h,fun y hy=>⟨?_,.inl hy⟩,⟨[r],[],rfl,⟨rfl,hS,es,clock,since,seen.push e.born,clock,?_,?_,k1,k2,k3,k4,k4,rfl,?_⟩,rfl⟩,by simp,fun y hy=>h1.out y hy⟩⟩))
  ·
   rw [k6]
   exact (FG_ k2 he).map dec
  ·
   have:=(h1.sb y hy).1
   exact Nat.lt_of_lt_of_le this hu.size
  · rw [hh _ hne',hx1.block g.b (zE hb) (by simp)];exact hb
  ·
   simp only [ChangeMaps.setBlock]
   rw [Array.getElem?_setIfInBounds_self_of_lt hr1]
  ·
   rintro p ⟨⟩
   exact ⟨e,hem,seen,rfl,rfl,rfl⟩
theorem nextN {ty:Nat}{g:Mh}{r:Nat}{c:Option (Int×Int)}{K:Value→World→Prop} (H:Cx w0 F S0 w (It g r c []::Γ)) (hK:K (.tuple #[.bool false]) w):ERun P (Instr.next (.pointer (some ⟨r,0,none⟩)) false ty) w K:=by
 obtain ⟨S,fp,_,_,es,clock,since,seen,last,hb,hr,k1,k2,k3,k4,k5,k6,k7⟩:=H.at_ 0 rfl
 rcases run_next_at (P:=P) w ty r g.b since last seen es clock hr hb k3 k5 with ⟨_,hrun⟩ | ⟨e,he,_⟩
 · exact wB hrun hK
 ·
  have:dec e∈([]:List (Int×Int)):=by rw [k6];exact List.mem_map_of_mem he
  cases this
theorem zY {g:Mh}{r:Nat}{k v:Int}{lf:List (Int×Int)}{K:Value→World→Prop} (H:Cx w0 F S0 w Γ) (i:Nat) (hi:entAt Γ i=It g r (some (k,v)) lf) (hK:K (.tuple #[.int .i64 k,.int .i64 v]) w):ERun P (Instr.entry (.pointer (some ⟨r,0,none⟩))) w K:=by
 obtain ⟨S,fp,_,_,es,clock,since,seen,last,hb,hr,k1,k2,k3,k4,k5,k6,k7⟩:=H.at_ i hi
 obtain ⟨e,he,s0,rfl,rfl,hd⟩:=k7 _ rfl
 have hrun:=run_entry_at (P:=P) w r g.b since s0 es last e hr hb he k2
 have hE:=k1 e he
 rw [hE.1,hE.2,hd] at hrun
 exact wB hrun hK
theorem Cx.itEnd {g:Mh}{r:Nat}{c:Option (Int×Int)}{lf:List (Int×Int)} (H:Cx w0 F S0 w (It g r c lf::Γ)):Cx w0 F S0 w (It g r none lf::Γ):=by
 obtain ⟨S,fp,I⟩:=H
 obtain ⟨f,q,e,⟨h1,h2,es,clock,since,seen,last,hb,hr,k1,k2,k3,k4,k5,k6,_⟩,h3⟩:=I.all
 exact ⟨S,fp,I.upd,I.s0,I.sb,⟨f,q,e,⟨h1,h2,es,clock,since,seen,last,hb,hr,k1,k2,k3,k4,k5,k6,fun p hp=>by cases hp⟩,h3⟩,I.nd,I.out⟩
theorem tY {N:Nat}{b:Code}{Q:Exit→FrL→World→Prop}{T:FrL}{σ γ:Type}{r:σ} (f:σ→Int→Int→Option σ) (hc:dZ f) (kvs:List (Int×Int)) (hk:gG kvs) (sl:σ→γ→List (Nat×Value)) (I:List (Int×Int)→σ→γ→World→Prop) (s0:σ) (g0:γ) (hr:kvO f kvs s0=some r) (hT:Has T (sl s0 g0)) (h0:I kvs s0 g0 w) (hb:∀ (T0:FrL) (lf:List (Int×Int)) (s:σ) (g:γ) (w':World) (J:FrL→World→Prop),lf≠[]→I lf s g w'→(∀ k v lf',lf.Perm ((k,v)::lf')→∃ s',f s k v=some s'∧∀ g' T' w'',Has T' (sl s' g')→I lf' s' g' w''→J T' w'')→vc P G N b (cF J Q) (ups T0 (sl s g)) w') (he:∀ (T0:FrL) (g:γ) (w':World),I [] r g w'→vc P G N b (cF (fun _ _=>False) Q) (ups T0 (sl r g)) w'):ELoop P G N b Q T w:=by
 refine ⟨fun ok=>⟨fun a hd hN hfr=>?_⟩⟩
 refine wp_loop_ghost (fun m a w=>a.defers=[]∧a.tmps.size=N∧∃ lf s g,m=lf.length∧gG lf∧kvO f lf s=some r∧Has (frL a) (sl s g)∧I lf s g w) kvs.length ⟨hd,hN,kvs,s0,g0,rfl,hk,hr,gH hfr hT _ (oD a),h0⟩ ?_
 rintro m a w ⟨hd,hN,lf,s,g,rfl,hkl,hfs,hH,hI⟩
 by_cases hl:lf=[]
 ·
  subst hl
  obtain rfl:s=r:=Option.some.inj hfs
  refine Code.wp_mono (gK (fun a' T' w' h1 h2 hT' h3=>h3.elim) (fun _ _ _ h=>h)) (yD ok b _ a _ w hd hN (by rw [tE hH,oD]) (he (frL a) g w hI))
 ·
  refine Code.wp_mono (gK (fun a' T' w' k1 k2 hT' h3=>?_) (fun _ _ _ h=>h)) (yD ok b _ a _ w hd hN (by rw [tE hH,oD]) (hb (frL a) lf s g w (fun T' w'=>∃ lf' s' g',lf'.length<lf.length∧gG lf'∧kvO f lf' s'=some r∧Has T' (sl s' g')∧I lf' s' g' w') hl hI ?_))
  ·
   obtain ⟨lf',s',g',h1,h2,h3,h4,h5⟩:=h3
   exact ⟨lf'.length,h1,k1,k2,lf',s',g',rfl,h2,h3,gH hT' h4 _ (oD a'),h5⟩
  ·
   intro k v lf' hp
   have hk':gG ((k,v)::lf'):=(hp.map _).nodup_iff.1 hkl
   rw [Gb_ hc hp hkl] at hfs
   obtain ⟨s',h1,h2⟩:=iB hfs
   exact ⟨s',h1,fun g' T' w'' h3 h4=>⟨lf',s',g',by rw [hp.length_eq];simp,(List.nodup_cons.1 hk').2,h2,h3,h4⟩⟩
end
end Go.Proofs.YtngbmcbigcaapaaGreatDoor.RW
