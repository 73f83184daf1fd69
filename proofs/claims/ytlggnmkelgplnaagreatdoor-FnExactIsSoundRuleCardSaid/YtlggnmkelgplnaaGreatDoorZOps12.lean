/-
  Bytes and strings: comparisons, indices, conversions, sums. Conditions: the engine's vE holds ('EngOk').
-/
import Derived.Test.YtlggnmkelgplnaaGreatDoorZOps11
namespace Go.Proofs.YtlggnmkelgplnaaGreatDoor.RW
open Go
open Rep RepZ
instance:Rep By where
 Gh:=Unit
 sz:=1
 agg:=false
 cl x _:=[.int .u8 x]
 rd _ _ _ _:=True
 own _ _ fp _ _:=fp=[]
 cl_len _ _:=rfl
 cl_one _ _ u hu:=by simp at hu;subst hu;rfl
 rd_mono _ h:=h
 rd_keep _ h:=h
 own_rd _:=trivial
 own_mono _ h:=h
 own_keep _ _ h:=h
 own_lt h b hb:=by rw [h] at hb;cases hb
 own_nd h:=by rw [h];exact List.nodup_nil
 cl_inj _ _ _ _:=rfl
instance:RepZ By:=⟨(0:Int),(),fun _ _=>rfl⟩
instance:Closed By:=⟨fun h=>h⟩
instance:Sc By:=⟨fun x=>.int .u8 x,rfl,fun _ _=>rfl,fun _=>rfl,fun _ _ _ _=>trivial,fun _ _ _ _ _=>Iff.rfl,()⟩
section
variable {P:Program}{G:Eng}{w0 w:World}{F:List Nat}{S0:Nat→Prop}{Γ:List Ent}{t:Nat}{x y:Operand}{k:IntKind}{a b:Int}{r:Bool}{K:Value→World→Prop}
theorem lssY (h:some (decide (a<b))=some r) (hK:K (.bool r) w):ERun P (do eqGuard .lss t x y (.int k a) (.int k b);binOp .lss t (.int k a) (.int k b)) w K:=by
 rw [←Option.some.inj h] at hK;exact yC (by simp [go_sem] <;> rfl) hK
theorem leqY (h:some (decide (a≤b))=some r) (hK:K (.bool r) w):ERun P (do eqGuard .leq t x y (.int k a) (.int k b);binOp .leq t (.int k a) (.int k b)) w K:=by
 rw [←Option.some.inj h] at hK;exact yC (by simp [go_sem] <;> rfl) hK
theorem gtrY (h:some (decide (b<a))=some r) (hK:K (.bool r) w):ERun P (do eqGuard .gtr t x y (.int k a) (.int k b);binOp .gtr t (.int k a) (.int k b)) w K:=by
 rw [←Option.some.inj h] at hK;exact yC (by simp [go_sem] <;> rfl) hK
theorem geqY (h:some (decide (b≤a))=some r) (hK:K (.bool r) w):ERun P (do eqGuard .geq t x y (.int k a) (.int k b);binOp .geq t (.int k a) (.int k b)) w K:=by
 rw [←Option.some.inj h] at hK;exact yC (by simp [go_sem] <;> rfl) hK
theorem oH (ok:EngOk P G){st bt:Nat}{zt:Value} (ht:uA G.tt t=some ⟨.string,st,bt,zt⟩){s:ByteArray}{i z:Int} (h:vC s i=some z) (hK:K (.int .u8 z) w):ERun P (Instr.index t (.string s) (.int .i64 i)) w K:=by
 have hu:=wY (qC ok ht)
 unfold vC at h
 split at h
 ·
  rename_i h0
  obtain ⟨c,hc,rfl⟩:=Option.map_eq_some_iff.1 h
  refine yC (v:=.int .u8 (c.toNat:Int)) (w':=w) ?_ hK
  simp [Instr.index,asIntOf,run_underlying hu,h0,hc]
 · cases h
def bv (x:By):Value:=.int .u8 x
theorem slOX {α:Type} [Rep α] (ok:EngOk P G){S':World→Prop}{t e st bt be:Nat}{zt ze:Value}{ke:TK} (ht:uA G.tt t=some ⟨.slice e,st,bt,zt⟩) (he:uA G.tt e=some ⟨ke,sz α,be,ze⟩){xs zs:List α}{h:Hd}{lo hi:Option Value}{l m:Int}
  (H:Cx w0 F S0 w (E (List α) xs h::Γ)) (hz:fB xs l m=some zs) (hlo:sH 0 lo=some l) (hhi:sH h.n hi=some m) {K:Value→Prop} (hK:∀ h':Hd,Cx w0 F S0 w (E (List α) zs h'::Γ)→K h'.v):EHAny P S' (Instr.sliceAt t h.v lo hi none) K:=by
 obtain ⟨l',m',rfl,rfl,hlm,hmn,rfl⟩:=lP hz
 have hc:=(H.ro 0 rfl).cap
 exact oA (v:=(h.sub l' m' h.c (sz α)).v) (fun w'=>yC (bV ok ht he l' m' hlo hhi hlm (by omega)) ⟨rfl,rfl⟩) (hK (h.sub l' m' h.c (sz α)) (H.subO hlm hmn ⟨by omega,Nat.le_refl _⟩))
theorem Rdb.at1' {α:Type} [Rep α] [Sc α] {xs:List α}{h:Hd}{k:Int}{a:α}{p:Addr}{m:Nat} (hr:Rdb w xs h) (ha:h.a=some p) (hk:k=(m:Int)) (hx:idxO xs k=some a):w.cell? (p.add (m*1))=some (Sc.val a):=by
 obtain ⟨p',m',h1,h2,_,h3⟩:=hr.at1 hx
 rw [ha] at h1
 obtain rfl:=Option.some.inj h1
 obtain rfl:m=m':=by omega
 exact h3
theorem lit1K {α:Type} [Rep α] (ok:EngOk P G){t e st bt be:Nat}{zt ze:Value}{ke:TK}
  (ht:uA G.tt t=some ⟨.slice e,st,bt,zt⟩) (he:uA G.tt e=some ⟨ke,sz α,be,ze⟩) (h0:Nat.blt 0 (sz α)=true) (h24:Nat.ble (sz α) 1000=true) {u:Value} {x:α} {g:Gh α} (hx:u.cells=(cl x g).toArray)
  (H:Cx w0 F S0 w (E α x g::Γ)) {K:Value→World→Prop}
  (hK:∀ (h':Hd) w',Ext w w'→Cx w0 F S0 w' (EH α [x] h' [⟨0,x,g⟩]::Γ)→K h'.v w') :
  ERun P (Instr.buildSlice t 1 #[(0,u)]) w K:=by
 have h0:0<sz α:=by simpa [Nat.blt_eq] using h0
 have h24:=Nat.le_of_ble_eq_true h24
 have hcs:u.cells.size=sz α:=by rw [hx];simp [cl_len]
 have hr:=lit1_ (w:=w) ok ht he h0 (by omega) hcs (by rw [hx];exact cl_one x g)
 obtain ⟨S,f1,h1,h3⟩:=Cx.frame (Γ1:=[E α x g]) H
 obtain ⟨fx,r,rfl,ox,hr'⟩:=h1.all
 obtain rfl:r=[]:=hr'
 have ox:own w S fx x g:=ox
 have hu:Ext w (w.alloc (.cells u.cells e)):=Upd.alloc w _
 have hlt:∀ b∈fx,b<w.heap.size:=own_lt ox
 have hchk:chk u.cells 0 (sz α) 0=cl x g:=by
  unfold chk
  rw [hx]
  simp
  exact List.take_of_length_le (by rw [cl_len];exact Nat.le_refl _)
 have ho:OwnG (sz α) (qOf S) (w.alloc (.cells u.cells e)) (w.heap.size::fx) (some ⟨w.heap.size,0,none⟩) 1 1 [x]:=by
  refine .inr ⟨w.heap.size,0,u.cells,e,[fx],rfl,heap_alloc_new w _,rfl,Nat.le_refl _,by unfold maxLen;omega,by rw [hcs];omega,rfl,by simp,?_,?_⟩
  · exact List.nodup_cons.2 ⟨fun h=>by have:=hlt _ h;omega,own_nd ox⟩
  ·
   intro i hi hi'
   obtain rfl:i=0:=by simp at hi;omega
   exact ⟨g,hchk,own_keep (fun b hb=>hu.block b (h1.sb b hb).1 (by simp)) (fun b hb=>hu.block b (hlt b hb) (by simp)) ox⟩
 have hkn:KnOk (w.alloc (.cells u.cells e)) [x] ⟨some ⟨w.heap.size,0,none⟩,1,1⟩ (⟨0,x,g⟩:Kn α):=by
  refine ⟨rfl,w.heap.size,0,rfl,fun j v hj=>?_⟩
  exact eN (s:=sz α) (o:=0) (i:=0) (heap_alloc_new w _) (by rw [hchk];exact hj)
 refine yC hr (hK ⟨some ⟨w.heap.size,0,none⟩,1,1⟩ _ hu (h3 _ [EH α [x] _ _] ⟨S,w.heap.size::fx,hu.mono (fun _ h=>by cases h),fun _ h=>h,fun b hb=>⟨Nat.lt_of_lt_of_le (h1.sb b hb).1 hu.size,.inl hb⟩,⟨_,[],by simp,⟨ho,fun k hk=>by rw [List.mem_singleton.1 hk];exact hkn⟩,rfl⟩,ho.nodup,fun b hb=>?_⟩))
 rcases List.mem_cons.1 hb with rfl | hb
 · exact ⟨fun hS=>by have:=(h1.sb _ hS).1;omega,.inr (Nat.le_refl _)⟩
 · exact ⟨(h1.out b (by simpa using hb)).1,.inl (by simpa using hb)⟩
end
end Go.Proofs.YtlggnmkelgplnaaGreatDoor.RW
