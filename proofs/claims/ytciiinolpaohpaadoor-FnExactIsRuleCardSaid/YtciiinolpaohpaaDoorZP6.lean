/-
  Plain laws: sums of rows, products of rows and matrices. No program in sight. No condition.
-/
import Derived.Test.YtciiinolpaohpaaDoorZP5
namespace Go.Proofs.YtciiinolpaohpaaDoor

theorem zeros_ {n : Nat} (h : n ≤ maxN) : F_impl_zeros (n : Int) = some (List.replicate n 0) := bnd (makeO_of _ h) rfl

theorem own_ {l : List Int} (h : l.length ≤ maxN) : F_spec_l1Own l = some l := bnd (appO_of (by simpa using h)) rfl
theorem clone_ {l : List Int} (h : l.length ≤ maxN) : F_impl_clone l = some l := bnd (appO_of (by simpa using h)) rfl
end Go.Proofs.YtciiinolpaohpaaDoor
