/-
  Contracts proved by hand, in the form of the printed ones: pad. Condition of each: its partial function yields a value.
-/
import Derived.Test.YtngbmcbigcaapaaGreatDoorZEng
import Derived.Test.YtngbmcbigcaapaaGreatDoorZOps20
import Derived.Test.YtngbmcbigcaapaaGreatDoorZSort
import Derived.Test.YtngbmcbigcaapaaGreatDoorZIter
import Derived.Test.YtngbmcbigcaapaaGreatDoorZFn
namespace Go.Proofs.YtngbmcbigcaapaaGreatDoor
open Go Go.Proofs.YtngbmcbigcaapaaGreatDoor.RW
set_option maxRecDepth 100000
set_option linter.unusedVariables false
theorem CE_ (c:Int):dZ (fun (s:List Int) k v=>(uA c v).bind fun a=>(iA s k a).bind fun b=>some b):=by
 intro s k v k' v' hne
 show (((uA c v).bind fun a=>(iA s k a).bind fun b=>some b).bind fun t=>(uA c v').bind fun a=>(iA t k' a).bind fun b=>some b) =
  (((uA c v').bind fun a=>(iA s k' a).bind fun b=>some b).bind fun t=>(uA c v).bind fun a=>(iA t k a).bind fun b=>some b)
 have hset:∀ i i' b b',i≠i'→((iA s i b).bind fun t=>iA t i' b')=((iA s i' b').bind fun t=>iA t i b):=by
  intro i i' b b' hi
  unfold iA
  by_cases h1:0≤i∧i.toNat<s.length
  ·
   by_cases h2:0≤i'∧i'.toNat<s.length
   ·
    have hn:i.toNat≠i'.toNat:=by omega
    rw [if_pos h1,if_pos h2,Option.bind_some,Option.bind_some,if_pos (by rw [List.length_set];exact h2),if_pos (by rw [List.length_set];exact h1),List.set_comm _ _ hn]
   · rw [if_pos h1,if_neg h2,Option.bind_some,Option.bind_none,if_neg (by rw [List.length_set];exact h2)]
  ·
   by_cases h2:0≤i'∧i'.toNat<s.length
   · rw [if_neg h1,if_pos h2,Option.bind_some,Option.bind_none,if_neg (by rw [List.length_set];exact h1)]
   · rw [if_neg h1,if_neg h2,Option.bind_none,Option.bind_none]
 have hs:∀ (m:Option (List Int)),(m.bind fun a=>some a)=m:=fun m=>by cases m <;> rfl
 simp only [hs]
 cases uA c v with
 | none=>cases uA c v' with
  | none=>rfl
  | some a'=>show none=((iA s k' a').bind fun t=>none);cases iA s k' a' <;> rfl
 | some a=>cases uA c v' with
  | none=>show ((iA s k a).bind fun t=>none)=none;cases iA s k a <;> rfl
  | some a'=>exact hset k k' a a' hne
end Go.Proofs.YtngbmcbigcaapaaGreatDoor
