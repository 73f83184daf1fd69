/-
  Plain laws: the law's helpers for lists of numbers and lists of rows. No program in sight. No condition.
-/
import Derived.Test.YtciiinolpaohpaaDoorZP2
import Derived.Test.YtciiinolpaohpaaDoorZFn
namespace Go.Proofs.YtciiinolpaohpaaDoor

def one {α : Type} (_ : α) : Nat := 1
theorem tot_mem {α : Type} {n : α → Nat} {l : List α} {a : α} (h : a ∈ l) : n a ≤ tot n l := by
  induction l with
  | nil => cases h
  | cons b l ih =>
    rw [tot_cons]
    cases h with
    | head => omega
    | tail _ h => have := ih h; omega
theorem mem_of_get {α : Type} {l : List α} {j : Nat} {a : α} (h : l[j]? = some a) : a ∈ l := List.mem_of_getElem? h

/-- the length of a list is a number of Go -/
def lenOk {α : Type} (l : List α) : Prop := (l.length : Int) ≤ 9223372036854775807

end Go.Proofs.YtciiinolpaohpaaDoor
