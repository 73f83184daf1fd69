/-
  Bytes and strings: comparisons, indices, conversions, sums. Conditions: the engine's eD holds ('EngOk').
-/
import Derived.Test.YtngbmcbigcaapaaGreatDoorZOps11
namespace Go.Proofs.YtngbmcbigcaapaaGreatDoor.RW
open Go
open Rep RepZ
instance:Rep By where
 Gh:=Unit
 sz:=1
 agg:=false
 cl x _:=[.int .u8 x]
 rd _ _ _ _:=True
 own _ _ fp _ _:=fp=[]
 cl_len _ _:=rfl
 cl_one _ _ u hu:=by simp at hu;subst hu;rfl
 rd_mono _ h:=h
 rd_keep _ h:=h
 own_rd _:=trivial
 own_mono _ h:=h
 own_keep _ _ h:=h
 own_lt h b hb:=by rw [h] at hb;cases hb
 own_nd h:=by rw [h];exact List.nodup_nil
 cl_inj _ _ _ _:=rfl
instance:RepZ By:=⟨(0:Int),(),fun _ _=>rfl⟩
instance:Closed By:=⟨fun h=>h⟩
instance:Sc By:=⟨fun x=>.int .u8 x,rfl,fun _ _=>rfl,fun _=>rfl,fun _ _ _ _=>trivial,fun _ _ _ _ _=>Iff.rfl,()⟩
section
variable {P:Program}{G:Eng}{w0 w:World}{F:List Nat}{S0:Nat→Prop}{Γ:List Ent}{t:Nat}{x y:Operand}{k:IntKind}{a b:Int}{r:Bool}{K:Value→World→Prop}
theorem Bj_ {kk:IntKind} (h:bE P t=some (.int kk)):P.underlying t=some (.int kk):=by
 unfold bE at h;split at h <;> simp_all
theorem indexZ {st bt:Nat}{zt:Value}{s:ByteArray}{i z:Int} (ok:EngOk P G) (ht:oA G.tt t=some ⟨.string,st,bt,zt⟩) (h:strO s i=some z) (hK:K (.int .u8 z) w):ERun P (Instr.index t (.string s) (.int .i64 i)) w K:=by
 have hu:=uW (cC ok ht)
 unfold strO at h
 split at h
 ·
  rename_i h0
  obtain ⟨c,hc,rfl⟩:=Option.map_eq_some_iff.1 h
  refine wB (v:=.int .u8 (c.toNat:Int)) (w':=w) ?_ hK
  simp [Instr.index,asIntOf,run_underlying hu,h0,hc]
 · cases h
def bv (x:By):Value:=.int .u8 x
theorem Rdb.at1' {α:Type} [Rep α] [Sc α] {xs:List α}{h:Hd}{k:Int}{a:α}{p:Addr}{m:Nat} (hr:Rdb w xs h) (ha:h.a=some p) (hk:k=(m:Int)) (hx:idxO xs k=some a):w.cell? (p.add (m*1))=some (Sc.val a):=by
 obtain ⟨p',m',h1,h2,_,h3⟩:=hr.at1 hx
 rw [ha] at h1
 obtain rfl:=Option.some.inj h1
 obtain rfl:m=m':=by omega
 exact h3
end
end Go.Proofs.YtngbmcbigcaapaaGreatDoor.RW
