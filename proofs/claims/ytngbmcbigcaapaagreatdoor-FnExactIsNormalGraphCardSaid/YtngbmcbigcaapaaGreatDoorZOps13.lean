/-
  A part of a variable written at once. Conditions: the engine's eD holds ('EngOk').
-/
import Derived.Test.YtngbmcbigcaapaaGreatDoorZOps12
namespace Go.Proofs.YtngbmcbigcaapaaGreatDoor.RW
open Go
open Rep RepZ
section
variable {P:Program}{G:Eng}{w0 w:World}{F:List Nat}{S0:Nat→Prop}{Γ:List Ent}
class Flat (α:Type) [Rep α]:Prop where
 flat:∀ {w:World} {S S':Nat→Prop} {x:α} {g:Gh α},rd w S x g→own w S' [] x g
instance:Flat Int:=⟨fun _=>rfl⟩
instance:Flat Bool:=⟨fun _=>rfl⟩
instance:Flat By:=⟨fun _=>rfl⟩
instance:Flat ByteArray:=⟨fun _=>rfl⟩
instance {α β:Type} [Rep α] [Rep β] [Flat α] [Flat β]:Flat (α×β):=⟨fun h=>⟨[],[],rfl,Flat.flat h.1,Flat.flat h.2,List.nodup_nil⟩⟩
end
end Go.Proofs.YtngbmcbigcaapaaGreatDoor.RW
