/-
  Bytes and strings: comparisons, indices, conversions, sums. Conditions: the engine's vD holds ('EngOk').
-/
import Derived.Test.YtodfjigndedehaaGreatDoorZOps11
namespace Go.Proofs.YtodfjigndedehaaGreatDoor.RW
open Go
open Rep RepZ
instance:Rep By where
 Gh:=Unit
 sz:=1
 agg:=false
 cl x _:=[.int .u8 x]
 rd _ _ _ _:=True
 own _ _ fp _ _:=fp=[]
 cl_len _ _:=rfl
 cl_one _ _ u hu:=by simp at hu;subst hu;rfl
 rd_mono _ h:=h
 rd_keep _ h:=h
 own_rd _:=trivial
 own_mono _ h:=h
 own_keep _ _ h:=h
 own_lt h b hb:=by rw [h] at hb;cases hb
 own_nd h:=by rw [h];exact List.nodup_nil
 cl_inj _ _ _ _:=rfl
instance:RepZ By:=⟨(0:Int),(),fun _ _=>rfl⟩
instance:Closed By:=⟨fun h=>h⟩
instance:Sc By:=⟨fun x=>.int .u8 x,rfl,fun _ _=>rfl,fun _=>rfl,fun _ _ _ _=>trivial,fun _ _ _ _ _=>Iff.rfl,()⟩
section
variable {P:Program}{G:Eng}{w0 w:World}{F:List Nat}{S0:Nat→Prop}{Γ:List Ent}{t:Nat}{x y:Operand}{k:IntKind}{a b:Int}{r:Bool}{K:Value→World→Prop}
theorem uQ {kk:IntKind} (h:pE P t=some (.int kk)):P.underlying t=some (.int kk):=by
 unfold pE at h;split at h <;> simp_all
theorem indexZ {st bt:Nat}{zt:Value}{s:ByteArray}{i z:Int} (ok:EngOk P G) (ht:tA G.tt t=some ⟨.string,st,bt,zt⟩) (h:strO s i=some z) (hK:K (.int .u8 z) w):ERun P (Instr.index t (.string s) (.int .i64 i)) w K:=by
 have hu:=mU (mC ok ht)
 unfold strO at h
 split at h
 ·
  rename_i h0
  obtain ⟨c,hc,rfl⟩:=Option.map_eq_some_iff.1 h
  refine cC (v:=.int .u8 (c.toNat:Int)) (w':=w) ?_ hK
  simp [Instr.index,asIntOf,run_underlying hu,h0,hc]
 · cases h
theorem wrap_u8 (x:Int):IntKind.u8.wrap x=x % 256:=by
 simp [IntKind.wrap,IntKind.bits,IntKind.signed]
theorem convIY {s d s1 b1 s2 b2:Nat}{z1 z2:Value}{n z:Int} (ok:EngOk P G) (hs:tA G.tt s=some ⟨.int .i64,s1,b1,z1⟩) (hd:tA G.tt d=some ⟨.int .u8,s2,b2,z2⟩) (h:some (n % 256)=some z) (hK:K (.int .u8 z) w):ERun P (convert s d (.int .i64 n)) w K:=by
 have h1:=uQ (mC ok hs)
 have h2:=uQ (mC ok hd)
 rw [←Option.some.inj h] at hK
 refine cC (v:=.int .u8 (n % 256)) (w':=w) ?_ hK
 simp [convert,run_underlying h1,run_underlying h2,Conv.intToInt,wrap_u8]
theorem catZ {s u z:ByteArray} (h:catO s u=some z) (hK:K (.string z) w):ERun P (do eqGuard .add t x y (.string s) (.string u);binOp .add t (.string s) (.string u)) w K:=by
 unfold catO at h
 split at h
 ·
  rename_i h0
  rw [←Option.some.inj h] at hK
  have h1:¬((s.size+u.size:Nat):Int) > IntKind.i64.max:=by
   have:IntKind.i64.max=9223372036854775807:=by decide
   omega
  refine cC (v:=.string (s++u)) (w':=w) ?_ hK
  simp only [eqGuard,binOp,Op.stringOp]
  rw [if_neg h1]
  simp
 · cases h
def bv (x:By):Value:=.int .u8 x
theorem Dq_ {f:Value→ByteArray→Sem (ForInStep ByteArray)} (w:World) (hf:∀ n s,f (.int .u8 n) s=pure (.yield (s.push (UInt8.ofNat n.toNat)))):∀ (xs:List By) (s:ByteArray),
  (forIn (m:=Sem) (xs.map bv) s f).run P w=.ok (xs.foldl (fun s n=>s.push (byU n)) s) w
 | [],s=>by simp
 | x::xs,s=>by
  have ih:=Dq_ w hf xs (s.push (byU x))
  have hf':f (bv x) s=pure (.yield (s.push (byU x))):=hf x s
  rw [List.map_cons,List.forIn_cons,hf']
  simp only [Sem.run_bind,Sem.run_pure,Result.andThen_ok,List.foldl_cons]
  exact ih
theorem DT_:∀ (xs:List By) (s:ByteArray),xs.foldl (fun s n=>s.push (byU n)) s=⟨s.data++(xs.map byU).toArray⟩
 | [],s=>by simp
 | x::xs,s=>by
  rw [List.foldl_cons,DT_ xs]
  congr 1
  apply Array.ext'
  simp [ByteArray.push]
theorem convBZ {s d e s1 b1 s2 b2 s3 b3:Nat}{z1 z2 z3:Value}{xs:List By}{h:Hd}{z:ByteArray} (ok:EngOk P G) (hs:tA G.tt s=some ⟨.slice e,s1,b1,z1⟩) (he:tA G.tt e=some ⟨.int .u8,s3,b3,z3⟩) (hd:tA G.tt d=some ⟨.string,s2,b2,z2⟩) (hr:Rdb w xs h) (hz:some (nO xs)=some z) (hK:K (.string z) w):ERun P (convert s d h.v) w K:=by
 have h1:=pG (mC ok hs)
 have h2:=mU (mC ok hd)
 have h3:=uQ (mC ok he)
 rw [←Option.some.inj hz] at hK
 have hlen:=hr.len
 refine cC (v:=.string (nO xs)) (w':=w) ?_ hK
 have key:(Conv.bytesToString h.v).run P w=.ok (.string (nO xs)) w:=by
  obtain ⟨A,n,c⟩:=h
  simp only at hlen
  subst hlen
  cases A with
  | none=>
   have:xs=[]:=by
    cases xs with
    | nil=>rfl
    | cons x xs=>obtain ⟨p,hp⟩:=hr.some_ (by simp);cases hp
   subst this;rfl
  | some a=>
   have hc:∀ j u,(xs.map bv)[j]?=some u→w.cell? (a.add (0+j))=some u:=by
    intro j u hj
    rw [List.getElem?_map] at hj
    obtain ⟨x,hx,rfl⟩:=Option.map_eq_some_iff.1 hj
    obtain ⟨p,m,h4,h5,h6,h7⟩:=hr.at1 (k:=(j:Int)) (a:=x) (by unfold idxO;rw [if_pos (by omega),Int.toNat_natCast];exact hx)
    obtain rfl:a=p:=Option.some.inj h4
    obtain rfl:j=m:=by omega
    rw [Nat.zero_add]
    rwa [Nat.mul_one] at h7
   have hl:=uY (P:=P) a w (xs.map bv) 0 #[] hc
   rw [List.length_map] at hl
   simp only [Hd.v,Conv.bytesToString,loadCells,Sem.run_bind,hl,Result.andThen_ok]
   have e:(#[]++(xs.map bv).toArray)=(xs.map bv).toArray:=by simp
   rw [e,Array.forIn_toList.symm]
   rw [Dq_ w (fun n s=>rfl) xs ByteArray.empty,DT_]
   simp only [Result.andThen_ok,Sem.run_pure]
   congr 3
   show (#[]:Array UInt8)++_=_
   rw [Array.empty_append]
 unfold convert
 simp only [Sem.run_bind,run_underlying h1,run_underlying h2,Result.andThen_ok]
 obtain ⟨A,n,c⟩:=h
 cases A with
 | none=>simp only [Hd.v,Sem.run_bind,run_underlying h3,Result.andThen_ok];exact key
 | some a=>simp only [Hd.v,Sem.run_bind,run_underlying h3,Result.andThen_ok];exact key
theorem slOX {α:Type} [Rep α] {S':World→Prop}{t e st bt be:Nat}{zt ze:Value}{ke:TK}{xs zs:List α}{h:Hd}{lo hi:Option Value}{l m:Int}{K:Value→Prop} (ok:EngOk P G) (ht:tA G.tt t=some ⟨.slice e,st,bt,zt⟩) (he:tA G.tt e=some ⟨ke,sz α,be,ze⟩) (H:Cx w0 F S0 w (E (List α) xs h::Γ)) (hz:iB xs l m=some zs) (hlo:jI 0 lo=some l) (hhi:jI h.n hi=some m) (hK:∀ h':Hd,Cx w0 F S0 w (E (List α) zs h'::Γ)→K h'.v):EHAny P S' (Instr.sliceAt t h.v lo hi none) K:=by
 obtain ⟨l',m',rfl,rfl,hlm,hmn,rfl⟩:=iQ hz
 have hc:=(H.ro 0 rfl).cap
 exact mA (v:=(h.sub l' m' h.c (sz α)).v) (fun w'=>cC (qW ok ht he l' m' hlo hhi hlm (by omega)) ⟨rfl,rfl⟩) (hK (h.sub l' m' h.c (sz α)) (H.subO hlm hmn ⟨by omega,Nat.le_refl _⟩))
theorem Rdb.at1' {α:Type} [Rep α] [Sc α] {xs:List α}{h:Hd}{k:Int}{a:α}{p:Addr}{m:Nat} (hr:Rdb w xs h) (ha:h.a=some p) (hk:k=(m:Int)) (hx:idxO xs k=some a):w.cell? (p.add (m*1))=some (Sc.val a):=by
 obtain ⟨p',m',h1,h2,_,h3⟩:=hr.at1 hx
 rw [ha] at h1
 obtain rfl:=Option.some.inj h1
 obtain rfl:m=m':=by omega
 exact h3
end
end Go.Proofs.YtodfjigndedehaaGreatDoor.RW
