/-
  NARROWER THAN 'FOR EVERY INPUT', by the rows' own cells (each row's printed sentence says how): FnExactSameOutputs: laid · FnExactHankelRank: laid · FnExactMarkovParameters: laid · FnExactHasVector: laid · FnExactFirstChoice: laid · FnExactHasPair: laid · FnExactNeverInputs: laid · FnExactIncludesRelation: laid · FnExactCoordinatesOf: laid · FnExactShortestRecurrence: laid · FnExactSolveLinear: laid.
  DERIVED. THE GIVEN ROWS OF THIS SEAT. 11 by the template 'for every input the law returns true; each argument reads behind the call as it read before'; 0 by the template 'total and deterministic' (their statements: YtnlbhdepagkjgaaDoorTotals.lean).
  GIVEN WITH THE SEED: the statements are not yours to turn. If you find one false, say at which input.
  Laid BY PROGRAM, IN A SANDBOX (cutbox-rows.mjs): the forced cells as the released guide's own fill.sh prints them over the translation 31a7227331416710… (all of the seat's roots in one cut). By AI agents, Wed Nov 11 2026. No macro, syntax, notation, axiom, sorry.
-/
import Derived.Test.YtnlbhdepagkjgaaDoorChecked
import GoSem.Claim
import GoSem.ClaimJoined
import GoSem.ClaimMapViews
import Derived.JoinedTies
import Derived.KernelRfl
namespace Go.Proofs.YtnlbhdepagkjgaaDoor
/- THE CELL 'sum', in the pinned program and in every row, IS THE sha256 OF THE DUMP (.gsa) THAT YtnlbhdepagkjgaaDoorProg.lean LOADS. Nothing in Lean hashes anything: it is a label: what it is worth is what the hold of that sum in a sandbox is worth. -/
noncomputable def Tryd.pinned : Pinned := { name := "ytnlbhdepagkjgaadoor", sum := "31a7227331416710fef188b01eba3265eb382307a5030194708df8033131e4d8", checked := Tryd.checked }
namespace Rows
def none {H : Type} : Left H := { results := [], args := [] }

/- WHAT THE LISTED PACKAGE-LEVEL VARIABLES READ AS WHEN THE CALL BEGINS. Each datum BY PROGRAM (the guide's laid-datum.mjs) off the statement by which the dump's own 'gosem.cut.vars' lays the variable. In a bare row this is a premise. The card (YtnlbhdepagkjgaaDoorCards.lean) ties it to the program's text. -/
def laid_loop_example_g01073_impl_smallPrimes {H : Type} : DataW H := .agg [.lit (.int .i64 2), .lit (.int .i64 3), .lit (.int .i64 5), .lit (.int .i64 7)]

/-- 'laws.FnExactSameOutputs': WHATEVER THE INPUT: true; the input reads as it did. -/
def fnExactSameOutputsSpec : ChangeSpec := { name := "fnExactSameOutputs", vars := ["loop.example/g01073/impl.smallPrimes"], fn := fun _ => fun
  | [d1, d2, d3, g1] => { results := [.lit (.bool true)], args := [d1, d2, d3], vars := [g1] }
  | _ => none }
def fnExactSameOutputsRow : OpenClaim := { program := "ytnlbhdepagkjgaadoor", sum := "31a7227331416710fef188b01eba3265eb382307a5030194708df8033131e4d8", func := "loop.example/g01073/laws.FnExactSameOutputs", spec := "fnExactSameOutputs", unfollowed := true, recurses := true, named := ["loop.example/g01073/impl.smallPrimes"], apart := false, laid := [("loop.example/g01073/impl.smallPrimes", laid_loop_example_g01073_impl_smallPrimes)] }
def FnExactSameOutputsSaid : Prop := fnExactSameOutputsRow.holds Tryd.pinned (OpenSpec.ofChange fnExactSameOutputsSpec)

/-- ITS FALSE NEIGHBOUR: 'it returns false'. Refute it at one input. -/
def fnExactSameOutputsWrong : ChangeSpec := { name := "fnExactSameOutputs", vars := ["loop.example/g01073/impl.smallPrimes"], fn := fun _ => fun
  | [d1, d2, d3, g1] => { results := [.lit (.bool false)], args := [d1, d2, d3], vars := [g1] }
  | _ => none }
def FnExactSameOutputsWrongFalsely : Prop := fnExactSameOutputsRow.holds Tryd.pinned (OpenSpec.ofChange fnExactSameOutputsWrong)

/-- 'laws.FnExactHankelRank': WHATEVER THE INPUT: true; the input reads as it did. -/
def fnExactHankelRankSpec : ChangeSpec := { name := "fnExactHankelRank", vars := ["loop.example/g01073/impl.smallPrimes"], fn := fun _ => fun
  | [d1, d2, g1] => { results := [.lit (.bool true)], args := [d1, d2], vars := [g1] }
  | _ => none }
def fnExactHankelRankRow : OpenClaim := { program := "ytnlbhdepagkjgaadoor", sum := "31a7227331416710fef188b01eba3265eb382307a5030194708df8033131e4d8", func := "loop.example/g01073/laws.FnExactHankelRank", spec := "fnExactHankelRank", unfollowed := true, recurses := true, named := ["loop.example/g01073/impl.smallPrimes"], apart := false, laid := [("loop.example/g01073/impl.smallPrimes", laid_loop_example_g01073_impl_smallPrimes)] }
def FnExactHankelRankSaid : Prop := fnExactHankelRankRow.holds Tryd.pinned (OpenSpec.ofChange fnExactHankelRankSpec)

/-- ITS FALSE NEIGHBOUR: 'it returns false'. Refute it at one input. -/
def fnExactHankelRankWrong : ChangeSpec := { name := "fnExactHankelRank", vars := ["loop.example/g01073/impl.smallPrimes"], fn := fun _ => fun
  | [d1, d2, g1] => { results := [.lit (.bool false)], args := [d1, d2], vars := [g1] }
  | _ => none }
def FnExactHankelRankWrongFalsely : Prop := fnExactHankelRankRow.holds Tryd.pinned (OpenSpec.ofChange fnExactHankelRankWrong)

/-- 'laws.FnExactMarkovParameters': WHATEVER THE INPUT: true; the input reads as it did. -/
def fnExactMarkovParametersSpec : ChangeSpec := { name := "fnExactMarkovParameters", vars := ["loop.example/g01073/impl.smallPrimes"], fn := fun _ => fun
  | [d1, d2, d3, g1] => { results := [.lit (.bool true)], args := [d1, d2, d3], vars := [g1] }
  | _ => none }
def fnExactMarkovParametersRow : OpenClaim := { program := "ytnlbhdepagkjgaadoor", sum := "31a7227331416710fef188b01eba3265eb382307a5030194708df8033131e4d8", func := "loop.example/g01073/laws.FnExactMarkovParameters", spec := "fnExactMarkovParameters", named := ["loop.example/g01073/impl.smallPrimes"], apart := false, laid := [("loop.example/g01073/impl.smallPrimes", laid_loop_example_g01073_impl_smallPrimes)] }
def FnExactMarkovParametersSaid : Prop := fnExactMarkovParametersRow.holds Tryd.pinned (OpenSpec.ofChange fnExactMarkovParametersSpec)

/-- ITS FALSE NEIGHBOUR: 'it returns false'. Refute it at one input. -/
def fnExactMarkovParametersWrong : ChangeSpec := { name := "fnExactMarkovParameters", vars := ["loop.example/g01073/impl.smallPrimes"], fn := fun _ => fun
  | [d1, d2, d3, g1] => { results := [.lit (.bool false)], args := [d1, d2, d3], vars := [g1] }
  | _ => none }
def FnExactMarkovParametersWrongFalsely : Prop := fnExactMarkovParametersRow.holds Tryd.pinned (OpenSpec.ofChange fnExactMarkovParametersWrong)

/-- 'laws.FnExactHasVector': WHATEVER THE INPUT: true; the input reads as it did. -/
def fnExactHasVectorSpec : ChangeSpec := { name := "fnExactHasVector", vars := ["loop.example/g01073/impl.smallPrimes"], fn := fun _ => fun
  | [d1, d2, d3, g1] => { results := [.lit (.bool true)], args := [d1, d2, d3], vars := [g1] }
  | _ => none }
def fnExactHasVectorRow : OpenClaim := { program := "ytnlbhdepagkjgaadoor", sum := "31a7227331416710fef188b01eba3265eb382307a5030194708df8033131e4d8", func := "loop.example/g01073/laws.FnExactHasVector", spec := "fnExactHasVector", unfollowed := true, recurses := true, named := ["loop.example/g01073/impl.smallPrimes"], apart := false, laid := [("loop.example/g01073/impl.smallPrimes", laid_loop_example_g01073_impl_smallPrimes)] }
def FnExactHasVectorSaid : Prop := fnExactHasVectorRow.holds Tryd.pinned (OpenSpec.ofChange fnExactHasVectorSpec)

/-- ITS FALSE NEIGHBOUR: 'it returns false'. Refute it at one input. -/
def fnExactHasVectorWrong : ChangeSpec := { name := "fnExactHasVector", vars := ["loop.example/g01073/impl.smallPrimes"], fn := fun _ => fun
  | [d1, d2, d3, g1] => { results := [.lit (.bool false)], args := [d1, d2, d3], vars := [g1] }
  | _ => none }
def FnExactHasVectorWrongFalsely : Prop := fnExactHasVectorRow.holds Tryd.pinned (OpenSpec.ofChange fnExactHasVectorWrong)

/-- 'laws.FnExactFirstChoice': WHATEVER THE INPUT: true; the input reads as it did. -/
def fnExactFirstChoiceSpec : ChangeSpec := { name := "fnExactFirstChoice", vars := ["loop.example/g01073/impl.smallPrimes"], fn := fun _ => fun
  | [d1, d2, g1] => { results := [.lit (.bool true)], args := [d1, d2], vars := [g1] }
  | _ => none }
def fnExactFirstChoiceRow : OpenClaim := { program := "ytnlbhdepagkjgaadoor", sum := "31a7227331416710fef188b01eba3265eb382307a5030194708df8033131e4d8", func := "loop.example/g01073/laws.FnExactFirstChoice", spec := "fnExactFirstChoice", unfollowed := true, recurses := true, named := ["loop.example/g01073/impl.smallPrimes"], apart := false, laid := [("loop.example/g01073/impl.smallPrimes", laid_loop_example_g01073_impl_smallPrimes)] }
def FnExactFirstChoiceSaid : Prop := fnExactFirstChoiceRow.holds Tryd.pinned (OpenSpec.ofChange fnExactFirstChoiceSpec)

/-- ITS FALSE NEIGHBOUR: 'it returns false'. Refute it at one input. -/
def fnExactFirstChoiceWrong : ChangeSpec := { name := "fnExactFirstChoice", vars := ["loop.example/g01073/impl.smallPrimes"], fn := fun _ => fun
  | [d1, d2, g1] => { results := [.lit (.bool false)], args := [d1, d2], vars := [g1] }
  | _ => none }
def FnExactFirstChoiceWrongFalsely : Prop := fnExactFirstChoiceRow.holds Tryd.pinned (OpenSpec.ofChange fnExactFirstChoiceWrong)

/-- 'laws.FnExactHasPair': WHATEVER THE INPUT: true; the input reads as it did. -/
def fnExactHasPairSpec : ChangeSpec := { name := "fnExactHasPair", vars := ["loop.example/g01073/impl.smallPrimes"], fn := fun _ => fun
  | [d1, d2, d3, d4, g1] => { results := [.lit (.bool true)], args := [d1, d2, d3, d4], vars := [g1] }
  | _ => none }
def fnExactHasPairRow : OpenClaim := { program := "ytnlbhdepagkjgaadoor", sum := "31a7227331416710fef188b01eba3265eb382307a5030194708df8033131e4d8", func := "loop.example/g01073/laws.FnExactHasPair", spec := "fnExactHasPair", unfollowed := true, recurses := true, named := ["loop.example/g01073/impl.smallPrimes"], apart := false, laid := [("loop.example/g01073/impl.smallPrimes", laid_loop_example_g01073_impl_smallPrimes)] }
def FnExactHasPairSaid : Prop := fnExactHasPairRow.holds Tryd.pinned (OpenSpec.ofChange fnExactHasPairSpec)

/-- ITS FALSE NEIGHBOUR: 'it returns false'. Refute it at one input. -/
def fnExactHasPairWrong : ChangeSpec := { name := "fnExactHasPair", vars := ["loop.example/g01073/impl.smallPrimes"], fn := fun _ => fun
  | [d1, d2, d3, d4, g1] => { results := [.lit (.bool false)], args := [d1, d2, d3, d4], vars := [g1] }
  | _ => none }
def FnExactHasPairWrongFalsely : Prop := fnExactHasPairRow.holds Tryd.pinned (OpenSpec.ofChange fnExactHasPairWrong)

/-- 'laws.FnExactNeverInputs': WHATEVER THE INPUT: true; the input reads as it did. -/
def fnExactNeverInputsSpec : ChangeSpec := { name := "fnExactNeverInputs", vars := ["loop.example/g01073/impl.smallPrimes"], fn := fun _ => fun
  | [d1, d2, g1] => { results := [.lit (.bool true)], args := [d1, d2], vars := [g1] }
  | _ => none }
def fnExactNeverInputsRow : OpenClaim := { program := "ytnlbhdepagkjgaadoor", sum := "31a7227331416710fef188b01eba3265eb382307a5030194708df8033131e4d8", func := "loop.example/g01073/laws.FnExactNeverInputs", spec := "fnExactNeverInputs", unfollowed := true, recurses := true, named := ["loop.example/g01073/impl.smallPrimes"], apart := false, laid := [("loop.example/g01073/impl.smallPrimes", laid_loop_example_g01073_impl_smallPrimes)] }
def FnExactNeverInputsSaid : Prop := fnExactNeverInputsRow.holds Tryd.pinned (OpenSpec.ofChange fnExactNeverInputsSpec)

/-- ITS FALSE NEIGHBOUR: 'it returns false'. Refute it at one input. -/
def fnExactNeverInputsWrong : ChangeSpec := { name := "fnExactNeverInputs", vars := ["loop.example/g01073/impl.smallPrimes"], fn := fun _ => fun
  | [d1, d2, g1] => { results := [.lit (.bool false)], args := [d1, d2], vars := [g1] }
  | _ => none }
def FnExactNeverInputsWrongFalsely : Prop := fnExactNeverInputsRow.holds Tryd.pinned (OpenSpec.ofChange fnExactNeverInputsWrong)

/-- 'laws.FnExactIncludesRelation': WHATEVER THE INPUT: true; the input reads as it did. -/
def fnExactIncludesRelationSpec : ChangeSpec := { name := "fnExactIncludesRelation", vars := ["loop.example/g01073/impl.smallPrimes"], fn := fun _ => fun
  | [d1, d2, d3, g1] => { results := [.lit (.bool true)], args := [d1, d2, d3], vars := [g1] }
  | _ => none }
def fnExactIncludesRelationRow : OpenClaim := { program := "ytnlbhdepagkjgaadoor", sum := "31a7227331416710fef188b01eba3265eb382307a5030194708df8033131e4d8", func := "loop.example/g01073/laws.FnExactIncludesRelation", spec := "fnExactIncludesRelation", unfollowed := true, recurses := true, named := ["loop.example/g01073/impl.smallPrimes"], apart := false, laid := [("loop.example/g01073/impl.smallPrimes", laid_loop_example_g01073_impl_smallPrimes)] }
def FnExactIncludesRelationSaid : Prop := fnExactIncludesRelationRow.holds Tryd.pinned (OpenSpec.ofChange fnExactIncludesRelationSpec)

/-- ITS FALSE NEIGHBOUR: 'it returns false'. Refute it at one input. -/
def fnExactIncludesRelationWrong : ChangeSpec := { name := "fnExactIncludesRelation", vars := ["loop.example/g01073/impl.smallPrimes"], fn := fun _ => fun
  | [d1, d2, d3, g1] => { results := [.lit (.bool false)], args := [d1, d2, d3], vars := [g1] }
  | _ => none }
def FnExactIncludesRelationWrongFalsely : Prop := fnExactIncludesRelationRow.holds Tryd.pinned (OpenSpec.ofChange fnExactIncludesRelationWrong)

/-- 'laws.FnExactCoordinatesOf': WHATEVER THE INPUT: true; the input reads as it did. -/
def fnExactCoordinatesOfSpec : ChangeSpec := { name := "fnExactCoordinatesOf", vars := ["loop.example/g01073/impl.smallPrimes"], fn := fun _ => fun
  | [d1, d2, d3, g1] => { results := [.lit (.bool true)], args := [d1, d2, d3], vars := [g1] }
  | _ => none }
def fnExactCoordinatesOfRow : OpenClaim := { program := "ytnlbhdepagkjgaadoor", sum := "31a7227331416710fef188b01eba3265eb382307a5030194708df8033131e4d8", func := "loop.example/g01073/laws.FnExactCoordinatesOf", spec := "fnExactCoordinatesOf", unfollowed := true, recurses := true, named := ["loop.example/g01073/impl.smallPrimes"], apart := false, laid := [("loop.example/g01073/impl.smallPrimes", laid_loop_example_g01073_impl_smallPrimes)] }
def FnExactCoordinatesOfSaid : Prop := fnExactCoordinatesOfRow.holds Tryd.pinned (OpenSpec.ofChange fnExactCoordinatesOfSpec)

/-- ITS FALSE NEIGHBOUR: 'it returns false'. Refute it at one input. -/
def fnExactCoordinatesOfWrong : ChangeSpec := { name := "fnExactCoordinatesOf", vars := ["loop.example/g01073/impl.smallPrimes"], fn := fun _ => fun
  | [d1, d2, d3, g1] => { results := [.lit (.bool false)], args := [d1, d2, d3], vars := [g1] }
  | _ => none }
def FnExactCoordinatesOfWrongFalsely : Prop := fnExactCoordinatesOfRow.holds Tryd.pinned (OpenSpec.ofChange fnExactCoordinatesOfWrong)

/-- 'laws.FnExactShortestRecurrence': WHATEVER THE INPUT: true; the input reads as it did. -/
def fnExactShortestRecurrenceSpec : ChangeSpec := { name := "fnExactShortestRecurrence", vars := ["loop.example/g01073/impl.smallPrimes"], fn := fun _ => fun
  | [d1, d2, g1] => { results := [.lit (.bool true)], args := [d1, d2], vars := [g1] }
  | _ => none }
def fnExactShortestRecurrenceRow : OpenClaim := { program := "ytnlbhdepagkjgaadoor", sum := "31a7227331416710fef188b01eba3265eb382307a5030194708df8033131e4d8", func := "loop.example/g01073/laws.FnExactShortestRecurrence", spec := "fnExactShortestRecurrence", unfollowed := true, recurses := true, named := ["loop.example/g01073/impl.smallPrimes"], apart := false, laid := [("loop.example/g01073/impl.smallPrimes", laid_loop_example_g01073_impl_smallPrimes)] }
def FnExactShortestRecurrenceSaid : Prop := fnExactShortestRecurrenceRow.holds Tryd.pinned (OpenSpec.ofChange fnExactShortestRecurrenceSpec)

/-- ITS FALSE NEIGHBOUR: 'it returns false'. Refute it at one input. -/
def fnExactShortestRecurrenceWrong : ChangeSpec := { name := "fnExactShortestRecurrence", vars := ["loop.example/g01073/impl.smallPrimes"], fn := fun _ => fun
  | [d1, d2, g1] => { results := [.lit (.bool false)], args := [d1, d2], vars := [g1] }
  | _ => none }
def FnExactShortestRecurrenceWrongFalsely : Prop := fnExactShortestRecurrenceRow.holds Tryd.pinned (OpenSpec.ofChange fnExactShortestRecurrenceWrong)

/-- 'laws.FnExactSolveLinear': WHATEVER THE INPUT: true; the input reads as it did. -/
def fnExactSolveLinearSpec : ChangeSpec := { name := "fnExactSolveLinear", vars := ["loop.example/g01073/impl.smallPrimes"], fn := fun _ => fun
  | [d1, d2, d3, g1] => { results := [.lit (.bool true)], args := [d1, d2, d3], vars := [g1] }
  | _ => none }
def fnExactSolveLinearRow : OpenClaim := { program := "ytnlbhdepagkjgaadoor", sum := "31a7227331416710fef188b01eba3265eb382307a5030194708df8033131e4d8", func := "loop.example/g01073/laws.FnExactSolveLinear", spec := "fnExactSolveLinear", unfollowed := true, recurses := true, named := ["loop.example/g01073/impl.smallPrimes"], apart := false, laid := [("loop.example/g01073/impl.smallPrimes", laid_loop_example_g01073_impl_smallPrimes)] }
def FnExactSolveLinearSaid : Prop := fnExactSolveLinearRow.holds Tryd.pinned (OpenSpec.ofChange fnExactSolveLinearSpec)

/-- ITS FALSE NEIGHBOUR: 'it returns false'. Refute it at one input. -/
def fnExactSolveLinearWrong : ChangeSpec := { name := "fnExactSolveLinear", vars := ["loop.example/g01073/impl.smallPrimes"], fn := fun _ => fun
  | [d1, d2, d3, g1] => { results := [.lit (.bool false)], args := [d1, d2, d3], vars := [g1] }
  | _ => none }
def FnExactSolveLinearWrongFalsely : Prop := fnExactSolveLinearRow.holds Tryd.pinned (OpenSpec.ofChange fnExactSolveLinearWrong)

/- THE SECOND FORM. 'bulk': how many values and letters a reading holds, each counted each time it is reached (what is shared counts as often as it is met; a slice's spare places count too). A statement '..UptoSaid' is the law's where the arguments, and the package variables that the reading takes, are together of bulk at most 1048576: NARROWER than '..Said'. Prove '..Said' where nothing that the law and all that it calls make is longer than what came in: it says more and counts as full. Else prove '..UptoSaid'. A law counts once. -/
mutual
def uptoBulk {H : Type} : DataW H → Nat
  | .lit (.string bytes) => bytes.length + 1
  | .lit _ => 1
  | .nil => 1
  | .ptr d => uptoBulk d + 1
  | .slice elems spare => uptoBulkAll elems + uptoBulkAll spare + 1
  | .agg parts => uptoBulkAll parts + 1
  | .iface _ d => uptoBulk d + 1
  | .map entries => uptoBulkEntries entries + 1
  | .held _ => 1
def uptoBulkAll {H : Type} : List (DataW H) → Nat
  | [] => 0
  | d :: r => uptoBulk d + uptoBulkAll r
def uptoBulkEntries {H : Type} : List (Lit × DataW H) → Nat
  | [] => 0
  | x :: r => uptoBulkEntry x + uptoBulkEntries r
def uptoBulkEntry {H : Type} : Lit × DataW H → Nat
  | (.string bytes, d) => bytes.length + uptoBulk d + 1
  | (_, d) => uptoBulk d + 1
 end
def uptoSmall : (H : Type) → List (DataW H) → Bool := fun _ ds => decide (uptoBulkAll ds ≤ 1048576)
def OpenSpec.upto (s : _root_.Go.ChangeSpec) : _root_.Go.OpenSpec := { _root_.Go.OpenSpec.ofChange s with cond := some uptoSmall }

/-- 'laws.FnExactSameOutputs', WHERE WHAT IT READS IS OF BULK AT MOST 1048576: true; the input reads as it did. -/
def fnExactSameOutputsUptoRow : OpenClaim := { program := "ytnlbhdepagkjgaadoor", sum := "31a7227331416710fef188b01eba3265eb382307a5030194708df8033131e4d8", func := "loop.example/g01073/laws.FnExactSameOutputs", spec := "fnExactSameOutputs", unfollowed := true, recurses := true, named := ["loop.example/g01073/impl.smallPrimes"], apart := false, laid := [("loop.example/g01073/impl.smallPrimes", laid_loop_example_g01073_impl_smallPrimes)], narrowed := true }
def FnExactSameOutputsUptoSaid : Prop := fnExactSameOutputsUptoRow.holds Tryd.pinned (OpenSpec.upto fnExactSameOutputsSpec)

/-- 'laws.FnExactHankelRank', WHERE WHAT IT READS IS OF BULK AT MOST 1048576: true; the input reads as it did. -/
def fnExactHankelRankUptoRow : OpenClaim := { program := "ytnlbhdepagkjgaadoor", sum := "31a7227331416710fef188b01eba3265eb382307a5030194708df8033131e4d8", func := "loop.example/g01073/laws.FnExactHankelRank", spec := "fnExactHankelRank", unfollowed := true, recurses := true, named := ["loop.example/g01073/impl.smallPrimes"], apart := false, laid := [("loop.example/g01073/impl.smallPrimes", laid_loop_example_g01073_impl_smallPrimes)], narrowed := true }
def FnExactHankelRankUptoSaid : Prop := fnExactHankelRankUptoRow.holds Tryd.pinned (OpenSpec.upto fnExactHankelRankSpec)

/-- 'laws.FnExactMarkovParameters', WHERE WHAT IT READS IS OF BULK AT MOST 1048576: true; the input reads as it did. -/
def fnExactMarkovParametersUptoRow : OpenClaim := { program := "ytnlbhdepagkjgaadoor", sum := "31a7227331416710fef188b01eba3265eb382307a5030194708df8033131e4d8", func := "loop.example/g01073/laws.FnExactMarkovParameters", spec := "fnExactMarkovParameters", named := ["loop.example/g01073/impl.smallPrimes"], apart := false, laid := [("loop.example/g01073/impl.smallPrimes", laid_loop_example_g01073_impl_smallPrimes)], narrowed := true }
def FnExactMarkovParametersUptoSaid : Prop := fnExactMarkovParametersUptoRow.holds Tryd.pinned (OpenSpec.upto fnExactMarkovParametersSpec)

/-- 'laws.FnExactHasVector', WHERE WHAT IT READS IS OF BULK AT MOST 1048576: true; the input reads as it did. -/
def fnExactHasVectorUptoRow : OpenClaim := { program := "ytnlbhdepagkjgaadoor", sum := "31a7227331416710fef188b01eba3265eb382307a5030194708df8033131e4d8", func := "loop.example/g01073/laws.FnExactHasVector", spec := "fnExactHasVector", unfollowed := true, recurses := true, named := ["loop.example/g01073/impl.smallPrimes"], apart := false, laid := [("loop.example/g01073/impl.smallPrimes", laid_loop_example_g01073_impl_smallPrimes)], narrowed := true }
def FnExactHasVectorUptoSaid : Prop := fnExactHasVectorUptoRow.holds Tryd.pinned (OpenSpec.upto fnExactHasVectorSpec)

/-- 'laws.FnExactFirstChoice', WHERE WHAT IT READS IS OF BULK AT MOST 1048576: true; the input reads as it did. -/
def fnExactFirstChoiceUptoRow : OpenClaim := { program := "ytnlbhdepagkjgaadoor", sum := "31a7227331416710fef188b01eba3265eb382307a5030194708df8033131e4d8", func := "loop.example/g01073/laws.FnExactFirstChoice", spec := "fnExactFirstChoice", unfollowed := true, recurses := true, named := ["loop.example/g01073/impl.smallPrimes"], apart := false, laid := [("loop.example/g01073/impl.smallPrimes", laid_loop_example_g01073_impl_smallPrimes)], narrowed := true }
def FnExactFirstChoiceUptoSaid : Prop := fnExactFirstChoiceUptoRow.holds Tryd.pinned (OpenSpec.upto fnExactFirstChoiceSpec)

/-- 'laws.FnExactHasPair', WHERE WHAT IT READS IS OF BULK AT MOST 1048576: true; the input reads as it did. -/
def fnExactHasPairUptoRow : OpenClaim := { program := "ytnlbhdepagkjgaadoor", sum := "31a7227331416710fef188b01eba3265eb382307a5030194708df8033131e4d8", func := "loop.example/g01073/laws.FnExactHasPair", spec := "fnExactHasPair", unfollowed := true, recurses := true, named := ["loop.example/g01073/impl.smallPrimes"], apart := false, laid := [("loop.example/g01073/impl.smallPrimes", laid_loop_example_g01073_impl_smallPrimes)], narrowed := true }
def FnExactHasPairUptoSaid : Prop := fnExactHasPairUptoRow.holds Tryd.pinned (OpenSpec.upto fnExactHasPairSpec)

/-- 'laws.FnExactNeverInputs', WHERE WHAT IT READS IS OF BULK AT MOST 1048576: true; the input reads as it did. -/
def fnExactNeverInputsUptoRow : OpenClaim := { program := "ytnlbhdepagkjgaadoor", sum := "31a7227331416710fef188b01eba3265eb382307a5030194708df8033131e4d8", func := "loop.example/g01073/laws.FnExactNeverInputs", spec := "fnExactNeverInputs", unfollowed := true, recurses := true, named := ["loop.example/g01073/impl.smallPrimes"], apart := false, laid := [("loop.example/g01073/impl.smallPrimes", laid_loop_example_g01073_impl_smallPrimes)], narrowed := true }
def FnExactNeverInputsUptoSaid : Prop := fnExactNeverInputsUptoRow.holds Tryd.pinned (OpenSpec.upto fnExactNeverInputsSpec)

/-- 'laws.FnExactIncludesRelation', WHERE WHAT IT READS IS OF BULK AT MOST 1048576: true; the input reads as it did. -/
def fnExactIncludesRelationUptoRow : OpenClaim := { program := "ytnlbhdepagkjgaadoor", sum := "31a7227331416710fef188b01eba3265eb382307a5030194708df8033131e4d8", func := "loop.example/g01073/laws.FnExactIncludesRelation", spec := "fnExactIncludesRelation", unfollowed := true, recurses := true, named := ["loop.example/g01073/impl.smallPrimes"], apart := false, laid := [("loop.example/g01073/impl.smallPrimes", laid_loop_example_g01073_impl_smallPrimes)], narrowed := true }
def FnExactIncludesRelationUptoSaid : Prop := fnExactIncludesRelationUptoRow.holds Tryd.pinned (OpenSpec.upto fnExactIncludesRelationSpec)

/-- 'laws.FnExactCoordinatesOf', WHERE WHAT IT READS IS OF BULK AT MOST 1048576: true; the input reads as it did. -/
def fnExactCoordinatesOfUptoRow : OpenClaim := { program := "ytnlbhdepagkjgaadoor", sum := "31a7227331416710fef188b01eba3265eb382307a5030194708df8033131e4d8", func := "loop.example/g01073/laws.FnExactCoordinatesOf", spec := "fnExactCoordinatesOf", unfollowed := true, recurses := true, named := ["loop.example/g01073/impl.smallPrimes"], apart := false, laid := [("loop.example/g01073/impl.smallPrimes", laid_loop_example_g01073_impl_smallPrimes)], narrowed := true }
def FnExactCoordinatesOfUptoSaid : Prop := fnExactCoordinatesOfUptoRow.holds Tryd.pinned (OpenSpec.upto fnExactCoordinatesOfSpec)

/-- 'laws.FnExactShortestRecurrence', WHERE WHAT IT READS IS OF BULK AT MOST 1048576: true; the input reads as it did. -/
def fnExactShortestRecurrenceUptoRow : OpenClaim := { program := "ytnlbhdepagkjgaadoor", sum := "31a7227331416710fef188b01eba3265eb382307a5030194708df8033131e4d8", func := "loop.example/g01073/laws.FnExactShortestRecurrence", spec := "fnExactShortestRecurrence", unfollowed := true, recurses := true, named := ["loop.example/g01073/impl.smallPrimes"], apart := false, laid := [("loop.example/g01073/impl.smallPrimes", laid_loop_example_g01073_impl_smallPrimes)], narrowed := true }
def FnExactShortestRecurrenceUptoSaid : Prop := fnExactShortestRecurrenceUptoRow.holds Tryd.pinned (OpenSpec.upto fnExactShortestRecurrenceSpec)

/-- 'laws.FnExactSolveLinear', WHERE WHAT IT READS IS OF BULK AT MOST 1048576: true; the input reads as it did. -/
def fnExactSolveLinearUptoRow : OpenClaim := { program := "ytnlbhdepagkjgaadoor", sum := "31a7227331416710fef188b01eba3265eb382307a5030194708df8033131e4d8", func := "loop.example/g01073/laws.FnExactSolveLinear", spec := "fnExactSolveLinear", unfollowed := true, recurses := true, named := ["loop.example/g01073/impl.smallPrimes"], apart := false, laid := [("loop.example/g01073/impl.smallPrimes", laid_loop_example_g01073_impl_smallPrimes)], narrowed := true }
def FnExactSolveLinearUptoSaid : Prop := fnExactSolveLinearUptoRow.holds Tryd.pinned (OpenSpec.upto fnExactSolveLinearSpec)

end Rows
end Go.Proofs.YtnlbhdepagkjgaaDoor
