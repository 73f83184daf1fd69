/-
  Maps of names to 'true' that a call makes for itself: made, asked, a new name put in. Conditions: the engine's eD holds ('EngOk').
-/
import Derived.Test.YtngbmcbigcaapaaGreatDoorZOps13
import Derived.MapKept
import Derived.Carry
namespace Go.Proofs.YtngbmcbigcaapaaGreatDoor.RW
open Go
open Rep RepZ
section
variable {P:Program}{G:Eng}{w0 w:World}{F:List Nat}{S0:Nat→Prop}{Γ:List Ent}
theorem Vw.bxg {b:Nat}{cs:List Value} (i:Nat) (hi:entAt Γ i=Bx b cs):Vw w Γ (Gl b cs):=by
 intro S fp h
 obtain ⟨f,h1,h2⟩:=h.ent i
 rw [hi] at h1
 obtain ⟨hf,e,he⟩:=h1
 refine ⟨rfl,.inr (h2 b (by rw [hf];simp)),fun j u hj=>?_⟩
 rw [Addr.add_lit,cell_of_row w b _ cs.toArray e (0,0) he,Nat.zero_add]
 simpa using hj
theorem Cx.glx {b:Nat}{cs:List Value}{j:Nat}{u:Value} (H:Cx w0 F S0 w Γ) (i:Nat) (hi:entAt Γ i=Gl b cs) (hj:cs[j]?=some u):w.cell? (Addr.add ⟨b,0,none⟩ j)=some u:=H.gl i hi j u hj
end
end Go.Proofs.YtngbmcbigcaapaaGreatDoor.RW
