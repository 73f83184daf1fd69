/-
  Strings: a leaf of one cell. Conditions: the engine's vD holds ('EngOk').
-/
import Derived.Test.YtodfjigndedehaaGreatDoorZOps9
namespace Go.Proofs.YtodfjigndedehaaGreatDoor.RW
open Go
open Rep RepZ
instance:Rep ByteArray where
 Gh:=Unit
 sz:=1
 agg:=false
 cl x _:=[.string x]
 rd _ _ _ _:=True
 own _ _ fp _ _:=fp=[]
 cl_len _ _:=rfl
 cl_one _ _ u hu:=by simp at hu;subst hu;rfl
 rd_mono _ h:=h
 rd_keep _ h:=h
 own_rd _:=trivial
 own_mono _ h:=h
 own_keep _ _ h:=h
 own_lt h b hb:=by rw [h] at hb;cases hb
 own_nd h:=by rw [h];exact List.nodup_nil
 cl_inj _ _ _ _:=rfl
instance:RepZ ByteArray:=⟨.empty,(),fun _ _=>rfl⟩
instance:Closed ByteArray:=⟨fun h=>h⟩
instance:Sc ByteArray:=⟨fun x=>.string x,rfl,fun _ _=>rfl,fun _=>rfl,fun _ _ _ _=>trivial,fun _ _ _ _ _=>Iff.rfl,()⟩
theorem FE_ (a b:ByteArray):(a.toList == b.toList)=decide (a=b):=by
 rw [Bool.eq_iff_iff]
 simp only [beq_iff_eq,decide_eq_true_eq]
 constructor
 ·
  intro h
  rw [ByteArray.toList_eq,ByteArray.toList_eq] at h
  cases a;cases b
  exact congrArg ByteArray.mk (Array.toList_inj.1 h)
 · intro h;rw [h]
section
variable {P:Program}{G:Eng}{w:World}
theorem eql_str {t:Nat} (a b:ByteArray) (w:World):(binOp .eql t (.string a) (.string b)).run P w=.ok (.bool (decide (a=b))) w:=by
 rw [←FE_];simp [binOp,Op.stringOp]
theorem neq_str {t:Nat} (a b:ByteArray) (w:World):(binOp .neq t (.string a) (.string b)).run P w=.ok (.bool (!decide (a=b))) w:=by
 rw [←FE_];simp [binOp,Op.stringOp]
theorem eqZ {t:Nat}{x y:Operand}{s u:ByteArray}{r:Bool}{K:Value→World→Prop} (he:some (decide (s=u))=some r) (hK:K (.bool r) w):ERun P (do eqGuard .eql t x y (.string s) (.string u);binOp .eql t (.string s) (.string u)) w K:=by
 have h1:=eql_str (P:=P) (t:=t) s u w
 rw [←Option.some.inj he] at hK
 refine cC (v:=.bool (decide (s=u))) (w':=w) ?_ hK
 simp [eqGuard,h1]
theorem neqZ {t:Nat}{x y:Operand}{s u:ByteArray}{r:Bool}{K:Value→World→Prop} (he:some (!decide (s=u))=some r) (hK:K (.bool r) w):ERun P (do eqGuard .neq t x y (.string s) (.string u);binOp .neq t (.string s) (.string u)) w K:=by
 have h1:=neq_str (P:=P) (t:=t) s u w
 rw [←Option.some.inj he] at hK
 refine cC (v:=.bool (!decide (s=u))) (w':=w) ?_ hK
 simp [eqGuard,h1]
end
end Go.Proofs.YtodfjigndedehaaGreatDoor.RW
