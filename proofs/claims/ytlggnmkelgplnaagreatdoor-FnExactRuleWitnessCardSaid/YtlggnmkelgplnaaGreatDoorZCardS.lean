/-
  What a string kX as. No condition.
-/
import Derived.Test.YtlggnmkelgplnaaGreatDoorZCard
import Derived.Test.YtlggnmkelgplnaaGreatDoorZP50
namespace Go.Proofs.YtlggnmkelgplnaaGreatDoor
open Go Go.RowKit Go.WideShapes Go.ChangeShapes Go.WideElems
open Go.Proofs.YtlggnmkelgplnaaGreatDoor.RW
open Rep
theorem Aj_ {P:Program}{t:TypeId} (ht:P.underlying t=some .string):rL P t ByteArray:=by
  intro H enc w fuel cs x h
  obtain ⟨s,rfl,_,hw⟩:=DataW.trod_string ht h
  have hm:maxLen=9223372036854775807:=rfl
  refine ⟨s,(),rfl,trivial,?_⟩
  show (s.size:Int)≤9223372036854775807
  omega
end Go.Proofs.YtlggnmkelgplnaaGreatDoor
