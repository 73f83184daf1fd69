/-
  Contracts proved by hand, in the form of the printed ones: pad. Condition of each: its partial function yields a value.
-/
import Derived.Test.YtbofgnbanmbopaaGreatDoorZEng
import Derived.Test.YtbofgnbanmbopaaGreatDoorZOps20
import Derived.Test.YtbofgnbanmbopaaGreatDoorZSort
import Derived.Test.YtbofgnbanmbopaaGreatDoorZFn
namespace Go.Proofs.YtbofgnbanmbopaaGreatDoor
open Go Go.Proofs.YtbofgnbanmbopaaGreatDoor.RW
set_option maxRecDepth 100000
set_option linter.unusedVariables false

/-- the numbers of a walk go into places of their own -/
theorem commNum (c : Int) : CommKV (fun (s : List Int) k v => (addO c v).bind fun a => (setO s k a).bind fun b => some b) := by
  intro s k v k' v' hne
  show (((addO c v).bind fun a => (setO s k a).bind fun b => some b).bind fun t => (addO c v').bind fun a => (setO t k' a).bind fun b => some b) =
    (((addO c v').bind fun a => (setO s k' a).bind fun b => some b).bind fun t => (addO c v).bind fun a => (setO t k a).bind fun b => some b)
  have hset : ∀ i i' b b', i ≠ i' → ((setO s i b).bind fun t => setO t i' b') = ((setO s i' b').bind fun t => setO t i b) := by
    intro i i' b b' hi
    unfold setO
    by_cases h1 : 0 ≤ i ∧ i.toNat < s.length
    · by_cases h2 : 0 ≤ i' ∧ i'.toNat < s.length
      · have hn : i.toNat ≠ i'.toNat := by omega
        rw [if_pos h1, if_pos h2, Option.bind_some, Option.bind_some, if_pos (by rw [List.length_set]; exact h2), if_pos (by rw [List.length_set]; exact h1), List.set_comm _ _ hn]
      · rw [if_pos h1, if_neg h2, Option.bind_some, Option.bind_none, if_neg (by rw [List.length_set]; exact h2)]
    · by_cases h2 : 0 ≤ i' ∧ i'.toNat < s.length
      · rw [if_neg h1, if_pos h2, Option.bind_some, Option.bind_none, if_neg (by rw [List.length_set]; exact h1)]
      · rw [if_neg h1, if_neg h2, Option.bind_none, Option.bind_none]
  have hs : ∀ (m : Option (List Int)), (m.bind fun a => some a) = m := fun m => by cases m <;> rfl
  simp only [hs]
  cases addO c v with
  | none => cases addO c v' with
    | none => rfl
    | some a' => show none = ((setO s k' a').bind fun t => none); cases setO s k' a' <;> rfl
  | some a => cases addO c v' with
    | none => show ((setO s k a).bind fun t => none) = none; cases setO s k a <;> rfl
    | some a' => exact hset k k' a a' hne
end Go.Proofs.YtbofgnbanmbopaaGreatDoor
