/-
  Small rules that the printed walks use. Condition: the engine's vD holds ('EngOk') where a type's number is looked up.
-/
import Derived.Test.YtodfjigndedehaaGreatDoorZHeld
namespace Go.Proofs.YtodfjigndedehaaGreatDoor.RW
open Go
open Go.RowKit (Below)
open Rep RepZ
section
variable {P:Program}{G:Eng}{w0 w:World}{F:List Nat}{S0:Nat→Prop}{Γ:List Ent}
theorem Cx.part {α β:Type} [Rep α] [Rep β] {x:α}{g:Gh α} (H:Cx w0 F S0 w Γ) (x':β) (g':Gh β) (i:Nat) (hi:entAt Γ i=Es α x g) (hp:∀ S,rd w S x g→rd w S x' g'):Cx w0 F S0 w (Es β x' g'::Γ):=
 H.add fun S fp I=>by
  obtain ⟨f,h1,_⟩:=I.all.ent i
  rw [hi] at h1
  exact ⟨rfl,hp _ h1.2⟩
theorem Cx.sc {α:Type} [Rep α] [Sc α] (H:Cx w0 F S0 w Γ) (x:α):Cx w0 F S0 w (E α x Sc.gh::Γ):=H.add fun _ _ _=>(Sc.own_nil _ _ _ _ _).2 rfl
theorem Cx.join {α β:Type} [Rep α] [Rep β] {x:α}{g:Gh α}{y:β}{k:Gh β} (H:Cx w0 F S0 w (E α x g::E β y k::Γ)):Cx w0 F S0 w (E (α×β) (x,y) (g,k)::Γ):=by
 obtain ⟨S,fp,I⟩:=H
 obtain ⟨f1,r,rfl,h1,f2,r2,rfl,h2,h3⟩:=I.all
 have hn:=I.nd
 rw [←List.append_assoc] at hn
 exact ⟨S,(f1++f2)++r2,I.upd,I.s0,I.sb,⟨f1++f2,r2,rfl,⟨f1,f2,rfl,h1,h2,(List.nodup_append.1 hn).1⟩,h3⟩,hn,fun b hb=>I.out b (by rwa [List.append_assoc] at hb)⟩
theorem Cx.split {α β:Type} [Rep α] [Rep β] {x:α}{g:Gh α}{y:β}{k:Gh β} (H:Cx w0 F S0 w (E (α×β) (x,y) (g,k)::Γ)):Cx w0 F S0 w (E α x g::E β y k::Γ):=by
 obtain ⟨S,fp,I⟩:=H
 obtain ⟨f,r,rfl,⟨f1,f2,rfl,h1,h2,_⟩,h3⟩:=I.all
 have hn:=I.nd
 rw [List.append_assoc] at hn
 exact ⟨S,f1++(f2++r),I.upd,I.s0,I.sb,⟨f1,f2++r,rfl,h1,f2,r,rfl,h2,h3⟩,hn,fun b hb=>I.out b (by rwa [List.append_assoc])⟩
theorem Cx.bxs {b:Nat}{cs cs':List Value} (H:Cx w0 F S0 w Γ) (i:Nat) (hi:entAt Γ i=Bx b cs) (off:Nat) (h:(cs.drop off).take cs'.length=cs'):∀ j u,cs'[j]?=some u→w.cell? ((Addr.add ⟨b,0,none⟩ off).add j)=some u:=by
 intro j u hj
 have hl:j<cs'.length:=(List.getElem?_eq_some_iff.1 hj).1
 rw [←h,List.getElem?_take,if_pos hl,List.getElem?_drop] at hj
 have:=H.bx i hi hj
 rw [Addr.add_lit] at this ⊢
 rw [Addr.add_lit]
 rwa [show 0+off+j=0+(off+j) by omega]
theorem pA {e:Ent}{l:List Ent} (h:gM e) (k:∀ x∈l,gM x):∀ x∈e::l,gM x:=fun x hx=>by
 rcases List.mem_cons.1 hx with rfl | hx
 · exact h
 · exact k x hx
theorem zA:∀ x∈([]:List Ent),gM x:=fun _ h=>by cases h
theorem indexI {t n e st bt be:Nat}{zt ze:Value}{ke:TK}{cs:Array Value}{l:List Int}{i a:Int}{K:Value→World→Prop} (ok:EngOk P G) (ht:tA G.tt t=some ⟨.array n e,st,bt,zt⟩) (he:tA G.tt e=some ⟨ke,1,be,ze⟩) (hk:uD ke=false) (hc:cs.toList=l.map (Value.int .i64)) (hn:Nat.beq l.length n=true) (hx:idxO l i=some a) (h:K (.int .i64 a) w):ERun P (Instr.index t (.agg cs) (.int .i64 i)) w K:=by
 obtain ⟨k,rfl,hm,hlt⟩:=rJ hx
 have hn:=Nat.eq_of_beq_eq_true hn
 have hu:=AB_ (mC ok ht)
 have h1:=gL (mC ok he) w
 have h2:=oG ok he w
 rw [hk] at h1
 have h3:(0:Int)≤(k:Int)∧(k:Int)<n:=⟨by omega,by omega⟩
 have h4:cs[k]?=some (.int .i64 a):=by rw [←Array.getElem?_toList,hc,List.getElem?_map,hm];rfl
 refine cC (v:=.int .i64 a) (w':=w) ?_ h
 simp [Instr.index,asIntOf,run_underlying hu,h3,h2,part,h1,h4]
 intro h';omega
theorem slSX {w0:World}{F:List Nat}{S0:Nat→Prop}{Γ:List Ent}{α:Type} [Rep α] {S':World→Prop}{t e st bt be:Nat}{zt ze:Value}{ke:TK}{xs zs:List α}{h:Hd}{lo hi:Option Value}{l m:Int}{K:Value→Prop} (ok:EngOk P G) (ht:tA G.tt t=some ⟨.slice e,st,bt,zt⟩) (he:tA G.tt e=some ⟨ke,Rep.sz α,be,ze⟩) (H:Cx w0 F S0 w Γ) (i:Nat) (hi':entAt Γ i=Es (List α) xs h) (hz:iB xs l m=some zs) (hlo:jI 0 lo=some l) (hhi:jI h.n hi=some m) (hK:∀ h':Hd,Cx w0 F S0 w (Es (List α) zs h'::Γ)→K h'.v):EHAny P S' (Instr.sliceAt t h.v lo hi none) K:=by
 obtain ⟨l',m',rfl,rfl,hlm,hmn,rfl⟩:=iQ hz
 have hc:=(H.rs i hi').cap
 exact mA (v:=(h.sub l' m' h.c (Rep.sz α)).v) (fun w'=>cC (qW ok ht he l' m' hlo hhi hlm (by omega)) ⟨rfl,rfl⟩) (hK (h.sub l' m' h.c (Rep.sz α)) (H.subS i hi' hlm hmn ⟨by omega,Nat.le_refl _⟩))
end
end Go.Proofs.YtodfjigndedehaaGreatDoor.RW
