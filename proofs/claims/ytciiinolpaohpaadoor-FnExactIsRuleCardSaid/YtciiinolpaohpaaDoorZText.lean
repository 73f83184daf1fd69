/-
  Plain law: the text of a mark. No program in sight. No condition.
-/
import Derived.Test.YtciiinolpaohpaaDoorZP1
import Derived.Test.YtciiinolpaohpaaDoorZFn
namespace Go.Proofs.YtciiinolpaohpaaDoor
instance : Nice ByteArray := ⟨fun s => (s.size : Int) ≤ 9223372036854775807⟩
end Go.Proofs.YtciiinolpaohpaaDoor
