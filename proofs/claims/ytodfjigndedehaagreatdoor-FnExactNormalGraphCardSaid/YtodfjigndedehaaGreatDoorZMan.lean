/-
  Contracts proved by hand, in the form of the printed ones: pad. Condition of each: its partial function yields a value.
-/
import Derived.Test.YtodfjigndedehaaGreatDoorZEng
import Derived.Test.YtodfjigndedehaaGreatDoorZOps20
import Derived.Test.YtodfjigndedehaaGreatDoorZSort
import Derived.Test.YtodfjigndedehaaGreatDoorZIter
import Derived.Test.YtodfjigndedehaaGreatDoorZFn
namespace Go.Proofs.YtodfjigndedehaaGreatDoor
open Go Go.Proofs.YtodfjigndedehaaGreatDoor.RW
set_option maxRecDepth 100000
set_option linter.unusedVariables false
theorem Ft_ (c:Int):BU_ (fun (s:List Int) k v=>(nA c v).bind fun a=>(setO s k a).bind fun b=>some b):=by
 intro s k v k' v' hne
 show (((nA c v).bind fun a=>(setO s k a).bind fun b=>some b).bind fun t=>(nA c v').bind fun a=>(setO t k' a).bind fun b=>some b) =
  (((nA c v').bind fun a=>(setO s k' a).bind fun b=>some b).bind fun t=>(nA c v).bind fun a=>(setO t k a).bind fun b=>some b)
 have hset:∀ i i' b b',i≠i'→((setO s i b).bind fun t=>setO t i' b')=((setO s i' b').bind fun t=>setO t i b):=by
  intro i i' b b' hi
  unfold setO
  by_cases h1:0≤i∧i.toNat<s.length
  ·
   by_cases h2:0≤i'∧i'.toNat<s.length
   ·
    have hn:i.toNat≠i'.toNat:=by omega
    rw [if_pos h1,if_pos h2,Option.bind_some,Option.bind_some,if_pos (by rw [List.length_set];exact h2),if_pos (by rw [List.length_set];exact h1),List.set_comm _ _ hn]
   · rw [if_pos h1,if_neg h2,Option.bind_some,Option.bind_none,if_neg (by rw [List.length_set];exact h2)]
  ·
   by_cases h2:0≤i'∧i'.toNat<s.length
   · rw [if_neg h1,if_pos h2,Option.bind_some,Option.bind_none,if_neg (by rw [List.length_set];exact h1)]
   · rw [if_neg h1,if_neg h2,Option.bind_none,Option.bind_none]
 have hs:∀ (m:Option (List Int)),(m.bind fun a=>some a)=m:=fun m=>by cases m <;> rfl
 simp only [hs]
 cases nA c v with
 | none=>cases nA c v' with
  | none=>rfl
  | some a'=>show none=((setO s k' a').bind fun t=>none);cases setO s k' a' <;> rfl
 | some a=>cases nA c v' with
  | none=>show ((setO s k a).bind fun t=>none)=none;cases setO s k a <;> rfl
  | some a'=>exact hset k k' a a' hne
end Go.Proofs.YtodfjigndedehaaGreatDoor
