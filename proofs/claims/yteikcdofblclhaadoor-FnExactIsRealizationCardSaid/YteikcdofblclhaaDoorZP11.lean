/-
  Plain laws: the steps of a reduction, in the reference and in the program. No program in sight. No condition.
-/
import Derived.Test.YteikcdofblclhaaDoorZP10
namespace Go.Proofs.YteikcdofblclhaaDoor

abbrev Rows := List (List Int)
def gr (m : Rows) (i : Nat) : List Int := m.getD i []
def el (r : List Int) (c : Nat) : Int := r.getD c 0

/-- rows of n numbers of a field -/
def okM (p : Int) (n : Nat) (m : Rows) : Prop := rowsP p n m

/-! ### one row -/
def part (g : Nat → Int → Int) (r : List Int) (j : Nat) : List Int := (r.take j).mapIdx g ++ r.drop j

/-! ### the reference's and the program's steps -/
end Go.Proofs.YteikcdofblclhaaDoor
