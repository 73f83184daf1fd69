/-
  Loops over an iterator whose body appends what comes to a list: the loop's record and the list as one entry; a round; a call of 'yield'. Conditions: the engine's eD holds ('EngOk').
-/
import Derived.Test.YtngbmcbigcaapaaGreatDoorZOps21
import Derived.RangeFuncIn
namespace Go.Proofs.YtngbmcbigcaapaaGreatDoor.RW
open Go
open Rep RepZ
set_option linter.unusedVariables false
set_option linter.unusedSectionVars false
def EEx {ι:Type} (f:ι→Ent):Ent:=⟨fun w S fp=>∃ i,(f i).h w S fp,fun hS ⟨i,h⟩=>⟨i,(f i).mono hS h⟩,fun hS hf ⟨i,h⟩=>⟨i,(f i).keep hS hf h⟩,fun ⟨i,h⟩=>(f i).lt h⟩
def EBu (Γ:List Ent):Ent:=⟨fun w S fp=>All w S Γ fp,fun hS h=>h.mono hS,fun hS hf h=>h.keep hS hf,fun h=>h.lt⟩
def Ob (b:Nat) (o:Obj):Ent:=⟨fun w _ fp=>fp=[b]∧w.heap[b]?=some o,fun _ h=>h,fun _ hf h=>⟨h.1,(hf b (by rw [h.1];simp)).trans h.2⟩,fun h b hb=>by rw [h.1] at hb;simp at hb;subst hb;exact zE h.2⟩
section
variable {P:Program}{G:Eng}{w0 w:World}{F:List Nat}{S0:Nat→Prop}{Γ Γ1:List Ent}
theorem Cx.exI {ι:Type}{f:ι→Ent} (H:Cx w0 F S0 w (EEx f::Γ)):∃ i,Cx w0 F S0 w (f i::Γ):=by
 obtain ⟨S,fp,I⟩:=H
 obtain ⟨g,r,e,⟨i,h⟩,h2⟩:=I.all
 exact ⟨i,S,fp,I.upd,I.s0,I.sb,⟨g,r,e,h,h2⟩,I.nd,I.out⟩
theorem Cx.exO {ι:Type}{f:ι→Ent} (i:ι) (H:Cx w0 F S0 w (f i::Γ)):Cx w0 F S0 w (EEx f::Γ):=H.imp fun _ _ _ h=>⟨i,h⟩
theorem Cx.buI (H:Cx w0 F S0 w (EBu Γ1::Γ)):Cx w0 F S0 w (Γ1++Γ):=by
 obtain ⟨S,fp,I⟩:=H
 obtain ⟨g,r,e,h,h2⟩:=I.all
 subst e
 exact ⟨S,g++r,I.upd,I.s0,I.sb,All.join h h2,I.nd,I.out⟩
theorem Cx.buO (H:Cx w0 F S0 w (Γ1++Γ)):Cx w0 F S0 w (EBu Γ1::Γ):=by
 obtain ⟨S,fp,I⟩:=H
 obtain ⟨f,g,e,h1,h2⟩:=I.all.split
 exact ⟨S,fp,I.upd,I.s0,I.sb,⟨f,g,e,h1,h2⟩,I.nd,I.out⟩
theorem Cx.selP (H:Cx w0 F S0 w (Γ1++Γ)) (l:List Nat) (hl:ndB l=true):Cx w0 F S0 w (RW.sel Γ1 l++Γ):=by
 obtain ⟨S,f1,h1,h2⟩:=Cx.frame H
 exact h2 w _ (h1.cx.sel l hl)
theorem Cx.obj {b:Nat}{o:Obj} (o':Obj) (H:Cx w0 F S0 w (Ob b o::Γ)):Cx w0 F S0 (w.putObj b o') (Ob b o'::Γ):=by
 obtain ⟨S,f1,h1,h2⟩:=Cx.frame (Γ1:=[Ob b o]) H
 obtain ⟨f,r,hfr,⟨hf,ho⟩,hrr⟩:=h1.all
 have hrr:r=[]:=hrr
 subst hf hrr hfr
 have hlt:=zE ho
 have hu:Upd ([b]++[]) w (w.putObj b o'):=⟨rfl,rfl,rfl,by simp,fun x _ hx=>World.putObj_heap_other (fun e=>hx (by simp [e]))⟩
 exact h2 _ [Ob b o'] ⟨S,[b],⟨hu,fun _ h=>h,fun y hy=>⟨by have:=(h1.sb y hy).1;simpa using this,.inl hy⟩,⟨[b],[],rfl,⟨rfl,World.putObj_heap_same hlt⟩,rfl⟩,by simp,fun y hy=>h1.out y hy⟩⟩
theorem Cx.obAt {b:Nat}{o:Obj} (H:Cx w0 F S0 w Γ) (i:Nat) (hi:entAt Γ i=Ob b o):w.heap[b]?=some o:=by
 obtain ⟨S,fp,h⟩:=H.at_ i hi
 exact h.2
theorem Cx.newOb (o:Obj) (H:Cx w0 F S0 w Γ):Cx w0 F S0 (w.alloc o) (Ob w.heap.size o::Γ):=
 H.new (f:=[w.heap.size]) (Upd.alloc w o) (fun S _=>⟨rfl,heap_alloc_new w o⟩) (by simp) (by simp)
def AccL (l D b:Nat) (r:Loop) (pre:List (List Int)):Ent:=EEx fun h:Hd=>EBu [Ob l (.loop r),Ob D (.deferred (some [])),Bx b [h.v],E (List (List Int)) pre h]
theorem clo_acc (l D b:Nat) (r:Loop) (pre:List (List Int)):Clo (AccL l D b r pre):=by
 rintro w S S' fp ⟨h,hA⟩
 exact ⟨h,All.clo ⟨fun h=>h,fun h=>h,cloB,cloE,trivial⟩ hA⟩
def YCon (P:Program) (l:Nat) (A:List (List Int)→Ent):Prop:=∀ {w0 w:World}{F:List Nat}{S0:Nat→Prop}{Γ:List Ent} (x:List Int) (hx:Hd) (pre:List (List Int)),Cx w0 F S0 w (E (List Int) x hx::A pre::Γ)→pre.length+1≤aB →
 YieldAt Fence.wide 0 P l #[hx.v] w fun e w'=>e=.returned (.bool true)∧Cx w0 F S0 w' (A (pre++[x])::Γ)
theorem callY {l:Nat}{A:List (List Int)→Ent}{x:List Int}{hx:Hd}{pre zs:List (List Int)}{args:Array Value}{K:Value→World→Prop} (hY:YCon P l A) (H:Cx w0 F S0 w (E (List Int) x hx::A pre::Γ)) (e:xA pre [x]=some zs) (ha:args=#[hx.v])
  (hK:∀ w',Cx w0 F S0 w' (A zs::Γ)→K (.bool true) w'):EYield P l args w K:=by
 subst ha
 unfold xA at e
 split at e
 ·
  rename_i hl
  obtain rfl:=Option.some.inj e
  obtain ⟨fn,tmps,assign,body,h1,h2⟩:=hY x hx pre H (by simpa using hl)
  exact ⟨⟨fn,tmps,assign,body,h1,h2.mono fun e w' ⟨he,hc⟩=>⟨_,he,hK _ hc⟩⟩⟩
 · cases e
def sT (K:FrL→World→Prop):Exit→FrL→World→Prop
 | .normal,T,w=>K T w
 | _,_,_=>False
theorem F0_ {N l D b:Nat}{r:Loop} (ok:EngOk P G) (hst:r.state=.ready) (hpe:r.pending=none){ia ib ic p s5 s6:Nat}{opsA opsB:Array Oper} (hps:r.params=#[p]) (ha:r.assign=.region ia opsA false) (hb:r.body=.block ib (.region ic opsB false))
  (hN:r.tmps.size=N) (hp:p<N) (hs:s5≠p) (h5:fr { tmps:=r.tmps,defers:=[] } s5=.pointer (some ⟨b,0,none⟩))
  (hA:∀ (T0:FrL) (w:World) (v:Value) (K:FrL→World→Prop),(∀ T',Has T' [(s5,.pointer (some ⟨b,0,none⟩)),(s6,v)]→K T' w)→iM P G N opsA.toList K opsA.toList (ups T0 [(s5,.pointer (some ⟨b,0,none⟩)),(p,v)]) w)
  (hB:∀ {w0 w:World} {F:List Nat} {S0:Nat→Prop} {Γ:List Ent} (T0:FrL) (h hx:Hd) (x:List Int) (pre:List (List Int)) (K:FrL→World→Prop),Cx w0 F S0 w (Bx b [h.v]::E (List (List Int)) pre h::E (List Int) x hx::Γ)→pre.length+1≤aB →
   (∀ T' w' h',Cx w0 F S0 w' (Bx b [(h':Hd).v]::E (List (List Int)) (pre++[x]) h'::Γ)→K T' w')→iM P G N opsB.toList K opsB.toList (ups T0 [(s5,.pointer (some ⟨b,0,none⟩)),(s6,hx.v)]) w) :
  YCon P l (AccL l D b r):=by
 intro w0 W F S0 Γ x hx pre H hlen
 have H:=Cx.selP (Γ1:=[E (List Int) x hx,AccL l D b r pre]) H [1,0] rfl
 obtain ⟨h,H⟩:=Cx.exI H
 have H:Cx w0 F S0 W ([Ob l (.loop r),Ob D (.deferred (some [])),Bx b [h.v],E (List (List Int)) pre h,E (List Int) x hx]++Γ):=H.buI
 have hl:=H.obAt 0 rfl
 refine ⟨r.fn,_,r.assign,r.body,run_yield hl (by rw [hps];rfl),roundIn_of_wpIn trivial ?_⟩
 have htm:(r.params.zip #[hx.v]).foldl (fun tmps (x:Tmp×Value)=>tmps.setIfInBounds x.1 x.2) r.tmps=r.tmps.setIfInBounds p hx.v:=by
  rw [hps,show (#[p]:Array Tmp).zip #[hx.v]=#[(p,hx.v)] from by apply Array.ext';simp]
  rfl
 rw [ha,hb]
 rw [show ((r.params.zip #[hx.v]).foldl (fun tmps (x:Tmp×Value)=>match x with | (t,a)=>tmps.setIfInBounds t a) r.tmps)=r.tmps.setIfInBounds p hx.v from htm]
 have hsz:(r.tmps.setIfInBounds p hx.v).size=N:=by rw [Array.size_setIfInBounds];exact hN
 have hH0:Has (frL { tmps:=r.tmps.setIfInBounds p hx.v,defers:=[] }) [(s5,.pointer (some ⟨b,0,none⟩)),(p,hx.v)]:=by
  refine ⟨?_,?_,trivial⟩
  ·
   rw [oD]
   unfold fr at h5 ⊢
   dsimp only at h5 ⊢
   rw [←h5]
   simp only [Array.getD_eq_getD_getElem?]
   rw [Array.getElem?_setIfInBounds_ne (fun e=>hs e.symm)]
  ·
   rw [oD]
   unfold fr
   dsimp only
   simp only [Array.getD_eq_getD_getElem?]
   rw [Array.getElem?_setIfInBounds_self_of_lt (by omega)]
   rfl
 refine wpIn_mono (wpIn_region_list (F:=FW (some l)) (mI (r:=some l) (Q:=sT fun T' w'=>Has T' [(s5,.pointer (some ⟨b,0,none⟩)),(s6,hx.v)]∧w'=W) ok opsA.toList _ (ups (frL _) _) W hsz rfl (by rw [tE hH0,oD]) (hA _ W hx.v _ fun T' hT'=>⟨hT',rfl⟩))) ?_
 rintro e a1 w1 ⟨hd1,hs1,T1,hT1,hQ⟩
 cases e with
 | normal=>
  obtain ⟨hH1,rfl⟩:=hQ
  refine ⟨_,run_beginRound hl hst,?_⟩
  have H1:Cx w0 F S0 _ ([Ob l (.loop { r with state:=.busy }),Ob D (.deferred (some [])),Bx b [h.v],E (List (List Int)) pre h,E (List Int) x hx]++Γ):=Cx.obj (.loop { r with state:=.busy }) H
  have H2:=H1.selP [2,3,4,0,1] rfl
  refine wpIn_block (wpIn_mono (wpIn_region_list (F:=FW (some l)) (mI (r:=some l) (Q:=sT fun T' w'=>∃ h':Hd,Cx w0 F S0 w' (Bx b [h'.v]::E (List (List Int)) (pre++[x]) h'::([Ob l (.loop { r with state:=.busy }),Ob D (.deferred (some []))]++Γ))) ok opsB.toList a1 (ups T1 _) _ hs1 hd1 (by rw [tE hH1,hT1]) (hB T1 h hx x pre _ H2 hlen fun T' w' h' H'=>⟨h',H'⟩))) ?_)
  rintro e a2 w2 ⟨hd2,hs2,T2,hT2,hQ2⟩
  cases e with
  | normal=>
   obtain ⟨h',H3⟩:=hQ2
   have H4:Cx w0 F S0 w2 ([Ob l (.loop { r with state:=.busy }),Ob D (.deferred (some [])),Bx b [h'.v],E (List (List Int)) (pre++[x]) h']++Γ):=Cx.selP (Γ1:=[Bx b [h'.v],E (List (List Int)) (pre++[x]) h',Ob l (.loop { r with state:=.busy }),Ob D (.deferred (some []))]) H3 [2,3,0,1] rfl
   have hl4:=H4.obAt 0 rfl
   refine ⟨_,_,run_endRound none hl4,rfl,?_⟩
   have er:({ ({ r with state:=.busy }:Loop) with state:=if (none:Option Code).isNone then .ready else .done,pending:=none }:Loop)=r:=by
    cases r
    simp only at hst hpe
    subst hst hpe
    rfl
   rw [er]
   exact Cx.exO h' (Cx.buO (Cx.obj (.loop r) H4))
  | _=>exact hQ2.elim
 | _=>exact hQ.elim
theorem argL_fr (args:List Value){m:Nat} (hn:args.length≤m):get (wG args 0)=fr { tmps:=args.toArray++Array.replicate (m-args.toArray.size) undef,defers:=[] }:=by
 funext i
 rw [aS]
 simp only [fr,Nat.zero_le,if_true,Nat.sub_zero]
 by_cases hi:i<args.length
 ·
  simp [Array.getD,List.getD,hi]
  intro h;omega
 ·
  simp [Array.getD,List.getD,hi]
  intro h
  rw [Array.getElem_append_right (by simpa using hi)]
  simp
theorem front {N n:Nat}{c rest:Code}{Q:Exit→Act→World→Prop}{a:Act}{T:FrL}{K:FrL→World→Prop} (ok:EngOk P G) (hd:a.defers=[]) (hN:a.tmps.size=N) (hT:get T=fr a) (h:vc P G N c (sT K) T w)
  (hK:∀ a' T' w',a'.defers=[]→a'.tmps.size=N→get T'=fr a'→K T' w'→rest.wpIn Fence.wide n P Q a' w'):(Code.seq c rest).wpIn Fence.wide n P Q a w:=by
 refine wpIn_seq (wpIn_mono ((wpIn_wide (n:=n)).2 (yD ok c _ a T w hd hN hT h)) ?_)
 rintro e a' w' ⟨h1,h2,T',h3,h4⟩
 cases e with
 | normal=>exact hK a' T' w' h1 h2 h3 h4
 | _=>exact h4.elim
theorem F7_ {g:Operand}{ps:Array Tmp}{assign body:Code}{Q:Exit→Act→World→Prop}{a:Act}{n gf:Nat}{lb:Array Value}{args:Nat→Array Value}{R:List Ent→Prop} (ok:EngOk P G) (hcan:G.can gf=true) (h1:1≤n) (hg:a.eval g=.func (.func gf) #[] lb) (hargs:∀ l,#[.func (.yield l) #[] #[]]++lb=args l)
  (H:Cx w0 F S0 w Γ)
  (hc:∀ (l D:Nat) (fn:FuncId) (w1:World),Cx w0 F S0 w1 (Ob l (.loop { state:=.ready,pending:=none,fn:=fn,tmps:=a.tmps,params:=ps,assign:=assign,body:=body,defers:=D })::Ob D (.deferred (some []))::Γ) →
   Calls P gf (args l) w1 fun e w'=>∃ v,e=.returned v∧∃ Γ2,R Γ2∧Cx w0 F S0 w' (Ob l (.loop { state:=.ready,pending:=none,fn:=fn,tmps:=a.tmps,params:=ps,assign:=assign,body:=body,defers:=D })::Ob D (.deferred (some []))::Γ2))
  (hQ:∀ (D:Nat) (w':World) (Γ2:List Ent),R Γ2→Cx w0 F S0 w' (Ob D (.deferred (some []))::Γ2)→Q .normal { a with defers:={ target:=.collected D,args:=#[] }::a.defers } w') :
  (Code.rangeFunc g ps assign body).wpIn Fence.wide n P Q a w:=by
 refine wpIn_rangeFunc ?_
 intro fn hfn
 obtain ⟨rec,hrec⟩:∃ rec:Loop,rec={ state:=.ready,pending:=none,fn:=fn,tmps:=a.tmps,params:=ps,assign:=assign,body:=body,defers:=w.heap.size }:=⟨_,rfl⟩
 obtain ⟨W1,hW1⟩:∃ W1,(w.alloc (.deferred (some []))).alloc (.loop rec)=W1:=⟨_,rfl⟩
 have H1:=(H.newOb (.deferred (some []))).newOb (.loop rec)
 rw [hW1,World.size_alloc] at H1
 refine ⟨w.heap.size+1,[{ target:=.collected w.heap.size,args:=#[] }],W1,{ target:=.fn (.func gf) lb,args:=#[.func (.yield (w.heap.size+1)) #[] #[]] },W1,gf,
  #[.func (.yield (w.heap.size+1)) #[] #[]]++lb,W1,?_,?_,?_,?_,fun _=>h1,?_⟩
 · rw [←hW1,hrec];exact run_enterLoop_outer _ _ _ _ _
 ·
  simp only [resolve,hg]
  simp [go_sem]
 · intro f' hf';simp [Target.leads] at hf';subst hf';trivial
 ·
  have eg:=fun args w=>rX (P:=P) ok hcan args w
  simp [invoke,go_sem,eg]
 ·
  rw [hargs]
  have h:=hc (w.heap.size+1) w.heap.size fn W1 (by rw [←hrec];exact H1)
  refine (callsIn_wide.2 h).mono ?_
  rintro e w2 ⟨v,rfl,Γ2,hR,H2⟩
  rw [←hrec] at H2
  have hl:=H2.obAt 0 rfl
  refine ⟨none,_,by have:=run_endLoop (P:=P) hl (by rw [hrec];simp);rw [hrec] at this;exact this,?_⟩
  have H3:=Cx.obj (.loop { rec with state:=.exhausted }) H2
  have H4:Cx w0 F S0 _ (Ob w.heap.size (.deferred (some []))::Γ2):=Cx.selP (Γ1:=[Ob (w.heap.size+1) (.loop { rec with state:=.exhausted }),Ob w.heap.size (.deferred (some []))]) H3 [1] rfl
  have:=hQ w.heap.size _ Γ2 hR H4
  rw [hrec] at this
  exact this
end
end Go.Proofs.YtngbmcbigcaapaaGreatDoor.RW
