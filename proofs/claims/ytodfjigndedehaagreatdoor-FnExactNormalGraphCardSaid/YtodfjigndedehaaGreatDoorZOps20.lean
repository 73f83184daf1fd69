/-
  A list whose elements are handed on one by one, from the first on. No condition.
-/
import Derived.Test.YtodfjigndedehaaGreatDoorZOps19
namespace Go.Proofs.YtodfjigndedehaaGreatDoor.RW
open Go
open Rep RepZ
set_option linter.unusedVariables false
set_option linter.unusedSectionVars false
section
variable {w0:World}{F:List Nat}{S0:Nat→Prop}{w:World}{Γ:List Ent}
theorem Cx.reSh {α β:Type} [Rep α] [Rep β] {x:α}{g:Gh α} (H:Cx w0 F S0 w (Es α x g::Γ)) (x':β) (g':Gh β) (hp:∀ w S,rd w S x g→rd w S x' g'):Cx w0 F S0 w (Es β x' g'::Γ):=H.imp fun S f _ h=>⟨h.1,hp _ S h.2⟩
theorem Cx.frzP {α β:Type} [Rep α] {xs:List α}{h:Hd} (H:Cx w0 F S0 w (E (List α) xs h::Γ)) (_:Rep β) (c:α→β) (cg:Gh α→Gh β) (cm:List α→List β) (hm:∀ (l:List α) (i:Nat),(cm l)[i]?=l[i]?.map c) (hs:sz β=sz α) (hr:∀ w S (x:α) (g:Gh α),rd w S x g→rd w S (c x) (cg g))
  (hc:∀ (x:α) (g:Gh α),cl (c x) (cg g)=cl x g):Cx w0 F S0 w (E (List (Sh β)) (cm xs) h::Γ):=H.frzC c cg cm hm hs hr hc
def DrG {α:Type} (s:Nat) (q:World→List Nat→List Value→α→Prop) (w:World) (fp:List Nat) (A:Option Addr) (n c m:Nat) (xs:List α):Prop:=
 (A=none∧xs=[]∧fp=[])∨∃ (g o:Nat) (cells:Array Value) (e:TypeId) (fps:List (List Nat)),A=some ⟨g,o,none⟩∧w.heap[g]?=some (.cells cells e (0,0))∧n=xs.length∧n≤c∧c≤maxLen∧o+c*s≤cells.size ∧
  fps.length=xs.length∧fp=g::fps.flatten∧fp.Nodup∧∀ i (h:i<xs.length) (h':i<fps.length),m≤i→q w fps[i] (chk cells o s i) xs[i]
def ED (α:Type) [Rep α] (m:Nat) (xs:List α) (h:Hd):Ent:=⟨fun w S fp=>DrG (sz α) (qOf S) w fp h.a h.n h.c m xs∧∀ b∈fp,b<w.heap.size,
 fun hS ⟨h1,hl⟩=>⟨by
  rcases h1 with h1 | ⟨g,o,cells,e,fps,h1,h2,h3,h4,h5,h6,h7,h8,h9,h10⟩
  · exact .inl h1
  · exact .inr ⟨g,o,cells,e,fps,h1,h2,h3,h4,h5,h6,h7,h8,h9,fun i hi hi' hm=>by obtain ⟨g,k1,k2⟩:=h10 i hi hi' hm;exact ⟨g,k1,own_mono hS k2⟩⟩,hl⟩,
 fun hS hf ⟨h1,hl⟩=>⟨by
  rcases h1 with h1 | ⟨g,o,cells,e,fps,h1,h2,h3,h4,h5,h6,h7,h8,h9,h10⟩
  · exact .inl h1
  ·
   exact .inr ⟨g,o,cells,e,fps,h1,by rw [hf g (by rw [h8];simp)];exact h2,h3,h4,h5,h6,h7,h8,h9,fun i hi hi' hm=>tR hS (fun b hb=>hf b (by
    rw [h8]
    exact List.mem_cons_of_mem _ (List.mem_flatten.2 ⟨fps[i],List.getElem_mem _,hb⟩))) (h10 i hi hi' hm)⟩,fun b hb=>by
  refine Decidable.byContradiction fun hn=>?_
  have h3:=hf b hb
  rw [Array.getElem?_eq_getElem (hl b hb),Array.getElem?_eq_none (by omega)] at h3
  cases h3⟩,
 fun ⟨_,hl⟩ b hb=>hl b hb⟩
theorem Cx.drain {α:Type} [Rep α] {xs:List α}{h:Hd} (H:Cx w0 F S0 w (E (List α) xs h::Γ)):Cx w0 F S0 w (ED α 0 xs h::Γ):=H.imp fun S f hnf h1=>by
 have h1:OwnG (sz α) (qOf S) w f h.a h.n h.c xs:=h1
 refine ⟨?_,fun b hb=>h1.lt cM b hb⟩
 rcases h1 with ⟨e1,e2,e3,e4,e5⟩ | ⟨g,o,cells,e,fps,ha,hg,hn,hnc,hcm,hsz,hl,hf,hnd,hqs⟩
 · exact .inl ⟨e1,e4,e5⟩
 · exact .inr ⟨g,o,cells,e,fps,ha,hg,hn,hnc,hcm,hsz,hl,hf,hnf,fun i hi hi' _=>hqs i hi hi'⟩
theorem Cx.drTake {α:Type} [Rep α] {xs:List α}{h:Hd}{m:Nat}{a:α} (H:Cx w0 F S0 w (ED α m xs h::Γ)) (hx:idxO xs (m:Int)=some a) :
  ∃ (p:Addr) (m':Nat) (g:Gh α),h.a=some p∧(m:Int)=(m':Int)∧m'<h.n∧(∀ j u,(cl a g)[j]?=some u→w.cell? ((p.add (m'*sz α)).add j)=some u)∧Cx w0 F S0 w (E α a g::ED α (m+1) xs h::Γ):=by
 obtain ⟨S,fp,I⟩:=H
 obtain ⟨f,r,rfl,⟨h1,hlt⟩,h2⟩:=I.all
 obtain ⟨m',e',hm,hml⟩:=rJ hx
 obtain rfl:m=m':=by omega
 have he:xs[m]=a:=by rw [List.getElem?_eq_getElem hml] at hm;exact Option.some.inj hm
 rcases h1 with ⟨_,rfl,_⟩ | ⟨b,o,cells,e,fps,ha,hg,hn,hnc,hcm,hsz,hl,rfl,hnd,hqs⟩
 · simp at hml
 ·
  have hmf:m<fps.length:=by omega
  obtain ⟨g,hc,hr⟩:=hqs m hml hmf (Nat.le_refl _)
  rw [he] at hc hr
  obtain ⟨n1,n2,n3⟩:=List.nodup_append.1 I.nd
  obtain ⟨s1,s2⟩:=Aq_ hmf n1
  have hsub:∀ x∈fps[m]++(b::(fps.set m []).flatten),x∈b::fps.flatten:=by
   intro x hx
   rcases List.mem_append.1 hx with hx | hx
   · exact List.mem_cons_of_mem _ (List.mem_flatten.2 ⟨_,List.getElem_mem hmf,hx⟩)
   ·
    rcases List.mem_cons.1 hx with rfl | hx
    · simp
    ·
     obtain ⟨i,hi,_,hb⟩:=jQ hx
     exact List.mem_cons_of_mem _ (List.mem_flatten.2 ⟨_,List.getElem_mem hi,hb⟩)
  have hcl:(cl a g).length=sz α:=cl_len a g
  refine ⟨⟨b,o,none⟩,m,g,ha,rfl,by omega,fun j u hj=>?_,S,fps[m]++((b::(fps.set m []).flatten)++r),I.upd,I.s0,I.sb,⟨fps[m],_,rfl,hr,b::(fps.set m []).flatten,r,rfl,⟨.inr ⟨b,o,cells,e,fps.set m [],ha,hg,hn,hnc,hcm,hsz,by rw [List.length_set];exact hl,rfl,s2,fun i hi hi' hmi=>?_⟩,fun x hx=>hlt x (hsub x (List.mem_append_right _ hx))⟩,h2⟩,?_,fun x hx=>?_⟩
  ·
   have hjl:j<(cl a g).length:=(List.getElem?_eq_some_iff.1 hj).1
   rw [←hc,xF (by omega)] at hj
   rw [Addr.add_lit,Addr.add_lit,cell_of_row w b _ cells e (0,0) hg]
   exact hj
  ·
   rw [List.getElem_set_ne (by omega)]
   exact hqs i hi (by rw [List.length_set] at hi';exact hi') (by omega)
  ·
   rw [←List.append_assoc]
   exact List.nodup_append.2 ⟨s1,n2,fun x hx y hy=>n3 x (hsub x hx) y hy⟩
  ·
   rw [←List.append_assoc] at hx
   refine I.out x ?_
   rcases List.mem_append.1 hx with hx | hx
   · exact List.mem_append_left _ (hsub x hx)
   · exact List.mem_append_right _ hx
variable {P:Program}{G:Eng}
theorem Je_:∀ {l:List (Int×Int)}{k:Int},(∀ p∈l,p.1≠k)→eM l k=false:=fun {l k} h=>by
 unfold eM
 rw [List.any_eq_false]
 intro p hp
 rw [decide_eq_true_eq]
 exact h p hp
theorem hasL_at {l:List (Int×Int)}{k v:Int}{j:Nat} (h:l[j]?=some (k,v)):eM l k=true:=by
 unfold eM
 rw [List.any_eq_true]
 exact ⟨_,List.mem_of_getElem? h,decide_eq_true rfl⟩
theorem FL_ {t k e n bb:Nat}{kk:TK}{m:MI}{g:Mh}{x:Int}{K:Value→World→Prop} (ok:EngOk P G) (ht:P.underlying t=some (.map k e)) (hk:P.underlying k=some (.int .i64)) (he:tA G.tt e=some ⟨kk,n,bb,.int .i64 0⟩) (hr:Rdb w m g){r:Bool} (hb':some (dM m x)=some r) (hK:K (.tuple #[.int .i64 (getM m x),.bool r]) w):ERun P (Instr.lookup t g.v (.int .i64 x) true) w K:=by
 obtain rfl:=Option.some.inj hb'
 obtain ⟨S,_,es,c,hb,h1,h2,_⟩:=hr
 obtain ⟨inf,hinf,hiz,_,_⟩:=zF ok he
 simp only at hiz
 have hz:(zeroValue e).run P w=.ok (.int .i64 0) w:=by simp [zeroValue,typeInfo,hinf,hiz]
 have hch:=MapKept.run_checkKey (P:=P) (w:=w) hk (k:=.int .i64 x) rfl es.isEmpty 9999
 rcases MapKept.findNow_spec (d:=.int .i64) (k:=.int .i64 x) rfl es.toList 0 (keysI h1) with ⟨f1,f2⟩ | ⟨j,y,f1,f2,f3⟩
 ·
  have hf:=MapKept.run_findKey (P:=P) (w:=w) hk f1
  have hno:∀ p∈m.kvs,p.1≠x:=fun p hp e=>by
   obtain ⟨j,hj⟩:=List.getElem?_of_mem hp
   obtain ⟨y,hy,e1,_⟩:=Ep_ h1 hj
   exact f2 y (List.mem_of_getElem? hy) (by rw [e1,e])
  have hg:getM m x=0:=Dx_ hno
  have hh:dM m x=false:=Je_ hno
  rw [hg,hh] at hK
  refine cC (v:=.tuple #[.int .i64 0,.bool false]) (w':=w) ?_ hK
  simp [Instr.lookup,Mh.v,run_underlying ht,MapKept.run_getObj_map hb,hch,hf,hz,Result.andThen]
 ·
  have hf:=MapKept.run_findKey (P:=P) (w:=w) hk f1
  obtain ⟨p,hp,e1,e2⟩:=Fj_ h1 f2
  have hp2:m.kvs[j]?=some (x,p.2):=by rw [hp];congr 1;rw [e1] at f3;exact Prod.ext (by injection f3) rfl
  have hg:getM m x=p.2:=Fb_ h2 hp2
  have hh:dM m x=true:=hasL_at hp2
  rw [hg,hh] at hK
  refine cC (v:=.tuple #[.int .i64 p.2,.bool true]) (w':=w) ?_ hK
  simp [Instr.lookup,Mh.v,run_underlying ht,MapKept.run_getObj_map hb,hch,hf,e2,Result.andThen]
theorem lenM {t k e ty:Nat}{m:MI}{g:Mh}{K:Value→World→Prop} (ht:P.underlying t=some (.map k e)) (hr:Rdb w m g) (hK:K (.int .i64 (m.kvs.length:Int)) w):ERun P (Builtin.len_ #[t] ty #[g.v]) w K:=by
 obtain ⟨S,_,es,c,hb,h1,h2,_⟩:=hr
 have hl:es.size=m.kvs.length:=by
  have:=congrArg List.length h1
  simpa using this
 refine cC (v:=.int .i64 (m.kvs.length:Int)) (w':=w) ?_ hK
 simp [Builtin.len_,Mh.v,run_underlying ht,MapKept.run_getObj_map hb,Result.andThen,goInt,hl]
end
end Go.Proofs.YtodfjigndedehaaGreatDoor.RW
