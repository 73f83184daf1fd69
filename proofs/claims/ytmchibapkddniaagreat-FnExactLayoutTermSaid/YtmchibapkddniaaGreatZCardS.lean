/-
  What a string reads as. No condition.
-/
import Derived.Test.YtmchibapkddniaaGreatZCard
import Derived.Test.YtmchibapkddniaaGreatZText
namespace Go.Proofs.YtmchibapkddniaaGreat
open Go Go.RowKit Go.WideShapes Go.ChangeShapes Go.WideElems
open Go.Proofs.YtmchibapkddniaaGreat.RW
open Rep
theorem opens_string {P : Program} {t : TypeId} (ht : P.underlying t = some .string) : Opens P t ByteArray := by
  intro H enc w fuel cs x h
  obtain ⟨s, rfl, _, hw⟩ := DataW.trod_string ht h
  have hm : maxLen = 9223372036854775807 := rfl
  refine ⟨s, (), rfl, trivial, ?_⟩
  show (s.size : Int) ≤ 9223372036854775807
  omega
end Go.Proofs.YtmchibapkddniaaGreat
