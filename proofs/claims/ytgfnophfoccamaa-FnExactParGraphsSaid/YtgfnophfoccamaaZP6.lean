/-
  Plain laws: sums of rows, products of rows and matrices. No program in sight. No condition.
-/
import Derived.Test.YtgfnophfoccamaaZP5
namespace Go.Proofs.Ytgfnophfoccamaa

theorem zeros_ {n : Nat} (h : n ≤ maxN) : F_impl_zeros (n : Int) = some (List.replicate n 0) := bnd (makeO_of _ h) rfl

end Go.Proofs.Ytgfnophfoccamaa
