/-
  What a string nX as. No condition.
-/
import Derived.Test.YtemcakhocdchiaaGreatDoorZCard
import Derived.Test.YtemcakhocdchiaaGreatDoorZP53
namespace Go.Proofs.YtemcakhocdchiaaGreatDoor
open Go Go.RowKit Go.WideShapes Go.ChangeShapes Go.WideElems
open Go.Proofs.YtemcakhocdchiaaGreatDoor.RW
open Rep
theorem Hb_ {P:Program}{t:TypeId} (ht:P.underlying t=some .string):dM P t ByteArray:=by
  intro H enc w fuel cs x h
  obtain ⟨s,rfl,_,hw⟩:=DataW.trod_string ht h
  have hm:maxLen=9223372036854775807:=rfl
  refine ⟨s,(),rfl,trivial,?_⟩
  show (s.size:Int)≤9223372036854775807
  omega
end Go.Proofs.YtemcakhocdchiaaGreatDoor
