/-
  Contracts proved by hand, in the form of the printed ones: pad. Condition of each: its partial function yields a value.
-/
import Derived.Test.YtemcakhocdchiaaGreatDoorZEng
import Derived.Test.YtemcakhocdchiaaGreatDoorZOps14
import Derived.Test.YtemcakhocdchiaaGreatDoorZFn
namespace Go.Proofs.YtemcakhocdchiaaGreatDoor
open Go Go.Proofs.YtemcakhocdchiaaGreatDoor.RW
set_option maxRecDepth 100000
set_option linter.unusedVariables false
theorem commRow (c p:Int):BJ_ (fun (s:List Int) k v=>(mA c k).bind fun i=>(rF p v).bind fun b=>(setO s i b).bind fun a=>some a):=by
 intro s k v k' v' hne
 show (((mA c k).bind fun i=>(rF p v).bind fun b=>(setO s i b).bind fun a=>some a).bind fun t=>(mA c k').bind fun i=>(rF p v').bind fun b=>(setO t i b).bind fun a=>some a) =
  (((mA c k').bind fun i=>(rF p v').bind fun b=>(setO s i b).bind fun a=>some a).bind fun t=>(mA c k).bind fun i=>(rF p v).bind fun b=>(setO t i b).bind fun a=>some a)
 have hset:∀ i i' b b',i≠i'→((setO s i b).bind fun t=>setO t i' b')=((setO s i' b').bind fun t=>setO t i b):=by
  intro i i' b b' hi
  unfold setO
  by_cases h1:0≤i∧i.toNat<s.length
  ·
   by_cases h2:0≤i'∧i'.toNat<s.length
   ·
    have hn:i.toNat≠i'.toNat:=by omega
    rw [if_pos h1,if_pos h2,Option.bind_some,Option.bind_some,if_pos (by rw [List.length_set];exact h2),if_pos (by rw [List.length_set];exact h1),List.set_comm _ _ hn]
   · rw [if_pos h1,if_neg h2,Option.bind_some,Option.bind_none,if_neg (by rw [List.length_set];exact h2)]
  ·
   by_cases h2:0≤i'∧i'.toNat<s.length
   · rw [if_neg h1,if_pos h2,Option.bind_some,Option.bind_none,if_neg (by rw [List.length_set];exact h1)]
   · rw [if_neg h1,if_neg h2,Option.bind_none,Option.bind_none]
 have hs:∀ (m:Option (List Int)),(m.bind fun a=>some a)=m:=fun m=>by cases m <;> rfl
 have hi:∀ i i',mA c k=some i→mA c k'=some i'→i≠i':=by
  intro i i' h1 h2
  unfold mA cI at h1 h2
  split at h1
  ·
   split at h2
   ·
    simp only [Option.some.injEq] at h1 h2
    omega
   · cases h2
  · cases h1
 simp only [hs]
 generalize mA c k=A at hi
 generalize mA c k'=A' at hi
 generalize rF p v=B
 generalize rF p v'=B'
 cases A with
 | none=>
  cases A' with
  | none=>rfl
  | some i'=>
   cases B' with
   | none=>rfl
   | some b'=>
    show none=(setO s i' b').bind fun t=>none
    cases setO s i' b' <;> rfl
 | some i=>
  cases A' with
  | none=>
   cases B with
   | none=>rfl
   | some b=>
    show ((setO s i b).bind fun t=>none)=none
    cases setO s i b <;> rfl
  | some i'=>
   cases B with
   | none=>
    cases B' with
    | none=>rfl
    | some b'=>
     show none=(setO s i' b').bind fun t=>none
     cases setO s i' b' <;> rfl
   | some b=>
    cases B' with
    | none=>
     show ((setO s i b).bind fun t=>none)=none
     cases setO s i b <;> rfl
    | some b'=>exact hset i i' b b' (hi i i' rfl rfl)
end Go.Proofs.YtemcakhocdchiaaGreatDoor
