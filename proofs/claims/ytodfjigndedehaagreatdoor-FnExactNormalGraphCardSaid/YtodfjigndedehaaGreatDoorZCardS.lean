/-
  What a string iX as. No condition.
-/
import Derived.Test.YtodfjigndedehaaGreatDoorZCard
import Derived.Test.YtodfjigndedehaaGreatDoorZP44
namespace Go.Proofs.YtodfjigndedehaaGreatDoor
open Go Go.RowKit Go.WideShapes Go.ChangeShapes Go.WideElems
open Go.Proofs.YtodfjigndedehaaGreatDoor.RW
open Rep
theorem HL_ {P:Program}{t:TypeId} (ht:P.underlying t=some .string):zL P t ByteArray:=by
  intro H enc w fuel cs x h
  obtain ⟨s,rfl,_,hw⟩:=DataW.trod_string ht h
  have hm:maxLen=9223372036854775807:=rfl
  refine ⟨s,(),rfl,trivial,?_⟩
  show (s.size:Int)≤9223372036854775807
  omega
end Go.Proofs.YtodfjigndedehaaGreatDoor
