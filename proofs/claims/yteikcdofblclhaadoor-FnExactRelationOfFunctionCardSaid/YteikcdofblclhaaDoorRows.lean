/-
  NARROWER THAN 'FOR EVERY INPUT', by the rows' own cells (each row's printed sentence says how): FnExactIsRealization: laid · FnExactReachableSpace: laid · FnExactRelationOfFunction: laid · FnExactAlwaysInputs: laid · FnExactIsInputChoice: laid · FnExactIsMinimal: laid · FnExactReplaceablePorts: laid · FnExactHiddenSpace: laid · FnExactMinimizeSpace: laid · FnExactSimilarityOf: laid · FnExactRealizeSequence: laid · FnExactRealizeMarkov: laid.
  DERIVED. THE GIVEN ROWS OF THIS SEAT. 12 by the template 'for every input the law returns true; each argument reads behind the call as it read before'; 0 by the template 'total and deterministic' (their statements: YteikcdofblclhaaDoorTotals.lean).
  GIVEN WITH THE SEED: the statements are not yours to turn. If you find one false, say at which input.
  Laid BY PROGRAM, IN A SANDBOX (cutbox-rows.mjs): the forced cells as the released guide's own fill.sh prints them over the translation 9b2a91e55613d317… (all of the seat's roots in one cut). By AI agents, Wed Nov 11 2026. No macro, syntax, notation, axiom, sorry.
-/
import Derived.Test.YteikcdofblclhaaDoorChecked
import GoSem.Claim
import GoSem.ClaimJoined
import GoSem.ClaimMapViews
import Derived.JoinedTies
import Derived.KernelRfl
namespace Go.Proofs.YteikcdofblclhaaDoor
/- THE CELL 'sum', in the pinned program and in every row, IS THE sha256 OF THE DUMP (.gsa) THAT YteikcdofblclhaaDoorProg.lean LOADS. Nothing in Lean hashes anything: it is a label: what it is worth is what the hold of that sum in a sandbox is worth. -/
noncomputable def Tryd.pinned : Pinned := { name := "yteikcdofblclhaadoor", sum := "9b2a91e55613d31753ddeb461c8f05923eac5bebf77e37376d1d243defc87214", checked := Tryd.checked }
namespace Rows
def none {H : Type} : Left H := { results := [], args := [] }

/- WHAT THE LISTED PACKAGE-LEVEL VARIABLES READ AS WHEN THE CALL BEGINS. Each datum BY PROGRAM (the guide's laid-datum.mjs) off the statement by which the dump's own 'gosem.cut.vars' lays the variable. In a bare row this is a premise. The card (YteikcdofblclhaaDoorCards.lean) ties it to the program's text. -/
def laid_loop_example_g01073_impl_smallPrimes {H : Type} : DataW H := .agg [.lit (.int .i64 2), .lit (.int .i64 3), .lit (.int .i64 5), .lit (.int .i64 7)]

/-- 'laws.FnExactIsRealization': WHATEVER THE INPUT: true; the input reads as it did. -/
def fnExactIsRealizationSpec : ChangeSpec := { name := "fnExactIsRealization", vars := ["loop.example/g01073/impl.smallPrimes"], fn := fun _ => fun
  | [d1, d2, d3, g1] => { results := [.lit (.bool true)], args := [d1, d2, d3], vars := [g1] }
  | _ => none }
def fnExactIsRealizationRow : OpenClaim := { program := "yteikcdofblclhaadoor", sum := "9b2a91e55613d31753ddeb461c8f05923eac5bebf77e37376d1d243defc87214", func := "loop.example/g01073/laws.FnExactIsRealization", spec := "fnExactIsRealization", unfollowed := true, recurses := true, named := ["loop.example/g01073/impl.smallPrimes"], apart := false, laid := [("loop.example/g01073/impl.smallPrimes", laid_loop_example_g01073_impl_smallPrimes)] }
def FnExactIsRealizationSaid : Prop := fnExactIsRealizationRow.holds Tryd.pinned (OpenSpec.ofChange fnExactIsRealizationSpec)

/-- ITS FALSE NEIGHBOUR: 'it returns false'. Refute it at one input. -/
def fnExactIsRealizationWrong : ChangeSpec := { name := "fnExactIsRealization", vars := ["loop.example/g01073/impl.smallPrimes"], fn := fun _ => fun
  | [d1, d2, d3, g1] => { results := [.lit (.bool false)], args := [d1, d2, d3], vars := [g1] }
  | _ => none }
def FnExactIsRealizationWrongFalsely : Prop := fnExactIsRealizationRow.holds Tryd.pinned (OpenSpec.ofChange fnExactIsRealizationWrong)

/-- 'laws.FnExactReachableSpace': WHATEVER THE INPUT: true; the input reads as it did. -/
def fnExactReachableSpaceSpec : ChangeSpec := { name := "fnExactReachableSpace", vars := ["loop.example/g01073/impl.smallPrimes"], fn := fun _ => fun
  | [d1, d2, g1] => { results := [.lit (.bool true)], args := [d1, d2], vars := [g1] }
  | _ => none }
def fnExactReachableSpaceRow : OpenClaim := { program := "yteikcdofblclhaadoor", sum := "9b2a91e55613d31753ddeb461c8f05923eac5bebf77e37376d1d243defc87214", func := "loop.example/g01073/laws.FnExactReachableSpace", spec := "fnExactReachableSpace", unfollowed := true, recurses := true, named := ["loop.example/g01073/impl.smallPrimes"], apart := false, laid := [("loop.example/g01073/impl.smallPrimes", laid_loop_example_g01073_impl_smallPrimes)] }
def FnExactReachableSpaceSaid : Prop := fnExactReachableSpaceRow.holds Tryd.pinned (OpenSpec.ofChange fnExactReachableSpaceSpec)

/-- ITS FALSE NEIGHBOUR: 'it returns false'. Refute it at one input. -/
def fnExactReachableSpaceWrong : ChangeSpec := { name := "fnExactReachableSpace", vars := ["loop.example/g01073/impl.smallPrimes"], fn := fun _ => fun
  | [d1, d2, g1] => { results := [.lit (.bool false)], args := [d1, d2], vars := [g1] }
  | _ => none }
def FnExactReachableSpaceWrongFalsely : Prop := fnExactReachableSpaceRow.holds Tryd.pinned (OpenSpec.ofChange fnExactReachableSpaceWrong)

/-- 'laws.FnExactRelationOfFunction': WHATEVER THE INPUT: true; the input reads as it did. -/
def fnExactRelationOfFunctionSpec : ChangeSpec := { name := "fnExactRelationOfFunction", vars := ["loop.example/g01073/impl.smallPrimes"], fn := fun _ => fun
  | [d1, d2, d3, d4, d5, g1] => { results := [.lit (.bool true)], args := [d1, d2, d3, d4, d5], vars := [g1] }
  | _ => none }
def fnExactRelationOfFunctionRow : OpenClaim := { program := "yteikcdofblclhaadoor", sum := "9b2a91e55613d31753ddeb461c8f05923eac5bebf77e37376d1d243defc87214", func := "loop.example/g01073/laws.FnExactRelationOfFunction", spec := "fnExactRelationOfFunction", unfollowed := true, recurses := true, named := ["loop.example/g01073/impl.smallPrimes"], apart := false, laid := [("loop.example/g01073/impl.smallPrimes", laid_loop_example_g01073_impl_smallPrimes)] }
def FnExactRelationOfFunctionSaid : Prop := fnExactRelationOfFunctionRow.holds Tryd.pinned (OpenSpec.ofChange fnExactRelationOfFunctionSpec)

/-- ITS FALSE NEIGHBOUR: 'it returns false'. Refute it at one input. -/
def fnExactRelationOfFunctionWrong : ChangeSpec := { name := "fnExactRelationOfFunction", vars := ["loop.example/g01073/impl.smallPrimes"], fn := fun _ => fun
  | [d1, d2, d3, d4, d5, g1] => { results := [.lit (.bool false)], args := [d1, d2, d3, d4, d5], vars := [g1] }
  | _ => none }
def FnExactRelationOfFunctionWrongFalsely : Prop := fnExactRelationOfFunctionRow.holds Tryd.pinned (OpenSpec.ofChange fnExactRelationOfFunctionWrong)

/-- 'laws.FnExactAlwaysInputs': WHATEVER THE INPUT: true; the input reads as it did. -/
def fnExactAlwaysInputsSpec : ChangeSpec := { name := "fnExactAlwaysInputs", vars := ["loop.example/g01073/impl.smallPrimes"], fn := fun _ => fun
  | [d1, d2, g1] => { results := [.lit (.bool true)], args := [d1, d2], vars := [g1] }
  | _ => none }
def fnExactAlwaysInputsRow : OpenClaim := { program := "yteikcdofblclhaadoor", sum := "9b2a91e55613d31753ddeb461c8f05923eac5bebf77e37376d1d243defc87214", func := "loop.example/g01073/laws.FnExactAlwaysInputs", spec := "fnExactAlwaysInputs", unfollowed := true, recurses := true, named := ["loop.example/g01073/impl.smallPrimes"], apart := false, laid := [("loop.example/g01073/impl.smallPrimes", laid_loop_example_g01073_impl_smallPrimes)] }
def FnExactAlwaysInputsSaid : Prop := fnExactAlwaysInputsRow.holds Tryd.pinned (OpenSpec.ofChange fnExactAlwaysInputsSpec)

/-- ITS FALSE NEIGHBOUR: 'it returns false'. Refute it at one input. -/
def fnExactAlwaysInputsWrong : ChangeSpec := { name := "fnExactAlwaysInputs", vars := ["loop.example/g01073/impl.smallPrimes"], fn := fun _ => fun
  | [d1, d2, g1] => { results := [.lit (.bool false)], args := [d1, d2], vars := [g1] }
  | _ => none }
def FnExactAlwaysInputsWrongFalsely : Prop := fnExactAlwaysInputsRow.holds Tryd.pinned (OpenSpec.ofChange fnExactAlwaysInputsWrong)

/-- 'laws.FnExactIsInputChoice': WHATEVER THE INPUT: true; the input reads as it did. -/
def fnExactIsInputChoiceSpec : ChangeSpec := { name := "fnExactIsInputChoice", vars := ["loop.example/g01073/impl.smallPrimes"], fn := fun _ => fun
  | [d1, d2, d3, g1] => { results := [.lit (.bool true)], args := [d1, d2, d3], vars := [g1] }
  | _ => none }
def fnExactIsInputChoiceRow : OpenClaim := { program := "yteikcdofblclhaadoor", sum := "9b2a91e55613d31753ddeb461c8f05923eac5bebf77e37376d1d243defc87214", func := "loop.example/g01073/laws.FnExactIsInputChoice", spec := "fnExactIsInputChoice", unfollowed := true, recurses := true, named := ["loop.example/g01073/impl.smallPrimes"], apart := false, laid := [("loop.example/g01073/impl.smallPrimes", laid_loop_example_g01073_impl_smallPrimes)] }
def FnExactIsInputChoiceSaid : Prop := fnExactIsInputChoiceRow.holds Tryd.pinned (OpenSpec.ofChange fnExactIsInputChoiceSpec)

/-- ITS FALSE NEIGHBOUR: 'it returns false'. Refute it at one input. -/
def fnExactIsInputChoiceWrong : ChangeSpec := { name := "fnExactIsInputChoice", vars := ["loop.example/g01073/impl.smallPrimes"], fn := fun _ => fun
  | [d1, d2, d3, g1] => { results := [.lit (.bool false)], args := [d1, d2, d3], vars := [g1] }
  | _ => none }
def FnExactIsInputChoiceWrongFalsely : Prop := fnExactIsInputChoiceRow.holds Tryd.pinned (OpenSpec.ofChange fnExactIsInputChoiceWrong)

/-- 'laws.FnExactIsMinimal': WHATEVER THE INPUT: true; the input reads as it did. -/
def fnExactIsMinimalSpec : ChangeSpec := { name := "fnExactIsMinimal", vars := ["loop.example/g01073/impl.smallPrimes"], fn := fun _ => fun
  | [d1, d2, g1] => { results := [.lit (.bool true)], args := [d1, d2], vars := [g1] }
  | _ => none }
def fnExactIsMinimalRow : OpenClaim := { program := "yteikcdofblclhaadoor", sum := "9b2a91e55613d31753ddeb461c8f05923eac5bebf77e37376d1d243defc87214", func := "loop.example/g01073/laws.FnExactIsMinimal", spec := "fnExactIsMinimal", unfollowed := true, recurses := true, named := ["loop.example/g01073/impl.smallPrimes"], apart := false, laid := [("loop.example/g01073/impl.smallPrimes", laid_loop_example_g01073_impl_smallPrimes)] }
def FnExactIsMinimalSaid : Prop := fnExactIsMinimalRow.holds Tryd.pinned (OpenSpec.ofChange fnExactIsMinimalSpec)

/-- ITS FALSE NEIGHBOUR: 'it returns false'. Refute it at one input. -/
def fnExactIsMinimalWrong : ChangeSpec := { name := "fnExactIsMinimal", vars := ["loop.example/g01073/impl.smallPrimes"], fn := fun _ => fun
  | [d1, d2, g1] => { results := [.lit (.bool false)], args := [d1, d2], vars := [g1] }
  | _ => none }
def FnExactIsMinimalWrongFalsely : Prop := fnExactIsMinimalRow.holds Tryd.pinned (OpenSpec.ofChange fnExactIsMinimalWrong)

/-- 'laws.FnExactReplaceablePorts': WHATEVER THE INPUT: true; the input reads as it did. -/
def fnExactReplaceablePortsSpec : ChangeSpec := { name := "fnExactReplaceablePorts", vars := ["loop.example/g01073/impl.smallPrimes"], fn := fun _ => fun
  | [d1, d2, d3, d4, g1] => { results := [.lit (.bool true)], args := [d1, d2, d3, d4], vars := [g1] }
  | _ => none }
def fnExactReplaceablePortsRow : OpenClaim := { program := "yteikcdofblclhaadoor", sum := "9b2a91e55613d31753ddeb461c8f05923eac5bebf77e37376d1d243defc87214", func := "loop.example/g01073/laws.FnExactReplaceablePorts", spec := "fnExactReplaceablePorts", unfollowed := true, recurses := true, named := ["loop.example/g01073/impl.smallPrimes"], apart := false, laid := [("loop.example/g01073/impl.smallPrimes", laid_loop_example_g01073_impl_smallPrimes)] }
def FnExactReplaceablePortsSaid : Prop := fnExactReplaceablePortsRow.holds Tryd.pinned (OpenSpec.ofChange fnExactReplaceablePortsSpec)

/-- ITS FALSE NEIGHBOUR: 'it returns false'. Refute it at one input. -/
def fnExactReplaceablePortsWrong : ChangeSpec := { name := "fnExactReplaceablePorts", vars := ["loop.example/g01073/impl.smallPrimes"], fn := fun _ => fun
  | [d1, d2, d3, d4, g1] => { results := [.lit (.bool false)], args := [d1, d2, d3, d4], vars := [g1] }
  | _ => none }
def FnExactReplaceablePortsWrongFalsely : Prop := fnExactReplaceablePortsRow.holds Tryd.pinned (OpenSpec.ofChange fnExactReplaceablePortsWrong)

/-- 'laws.FnExactHiddenSpace': WHATEVER THE INPUT: true; the input reads as it did. -/
def fnExactHiddenSpaceSpec : ChangeSpec := { name := "fnExactHiddenSpace", vars := ["loop.example/g01073/impl.smallPrimes"], fn := fun _ => fun
  | [d1, d2, g1] => { results := [.lit (.bool true)], args := [d1, d2], vars := [g1] }
  | _ => none }
def fnExactHiddenSpaceRow : OpenClaim := { program := "yteikcdofblclhaadoor", sum := "9b2a91e55613d31753ddeb461c8f05923eac5bebf77e37376d1d243defc87214", func := "loop.example/g01073/laws.FnExactHiddenSpace", spec := "fnExactHiddenSpace", unfollowed := true, recurses := true, named := ["loop.example/g01073/impl.smallPrimes"], apart := false, laid := [("loop.example/g01073/impl.smallPrimes", laid_loop_example_g01073_impl_smallPrimes)] }
def FnExactHiddenSpaceSaid : Prop := fnExactHiddenSpaceRow.holds Tryd.pinned (OpenSpec.ofChange fnExactHiddenSpaceSpec)

/-- ITS FALSE NEIGHBOUR: 'it returns false'. Refute it at one input. -/
def fnExactHiddenSpaceWrong : ChangeSpec := { name := "fnExactHiddenSpace", vars := ["loop.example/g01073/impl.smallPrimes"], fn := fun _ => fun
  | [d1, d2, g1] => { results := [.lit (.bool false)], args := [d1, d2], vars := [g1] }
  | _ => none }
def FnExactHiddenSpaceWrongFalsely : Prop := fnExactHiddenSpaceRow.holds Tryd.pinned (OpenSpec.ofChange fnExactHiddenSpaceWrong)

/-- 'laws.FnExactMinimizeSpace': WHATEVER THE INPUT: true; the input reads as it did. -/
def fnExactMinimizeSpaceSpec : ChangeSpec := { name := "fnExactMinimizeSpace", vars := ["loop.example/g01073/impl.smallPrimes"], fn := fun _ => fun
  | [d1, d2, g1] => { results := [.lit (.bool true)], args := [d1, d2], vars := [g1] }
  | _ => none }
def fnExactMinimizeSpaceRow : OpenClaim := { program := "yteikcdofblclhaadoor", sum := "9b2a91e55613d31753ddeb461c8f05923eac5bebf77e37376d1d243defc87214", func := "loop.example/g01073/laws.FnExactMinimizeSpace", spec := "fnExactMinimizeSpace", unfollowed := true, recurses := true, named := ["loop.example/g01073/impl.smallPrimes"], apart := false, laid := [("loop.example/g01073/impl.smallPrimes", laid_loop_example_g01073_impl_smallPrimes)] }
def FnExactMinimizeSpaceSaid : Prop := fnExactMinimizeSpaceRow.holds Tryd.pinned (OpenSpec.ofChange fnExactMinimizeSpaceSpec)

/-- ITS FALSE NEIGHBOUR: 'it returns false'. Refute it at one input. -/
def fnExactMinimizeSpaceWrong : ChangeSpec := { name := "fnExactMinimizeSpace", vars := ["loop.example/g01073/impl.smallPrimes"], fn := fun _ => fun
  | [d1, d2, g1] => { results := [.lit (.bool false)], args := [d1, d2], vars := [g1] }
  | _ => none }
def FnExactMinimizeSpaceWrongFalsely : Prop := fnExactMinimizeSpaceRow.holds Tryd.pinned (OpenSpec.ofChange fnExactMinimizeSpaceWrong)

/-- 'laws.FnExactSimilarityOf': WHATEVER THE INPUT: true; the input reads as it did. -/
def fnExactSimilarityOfSpec : ChangeSpec := { name := "fnExactSimilarityOf", vars := ["loop.example/g01073/impl.smallPrimes"], fn := fun _ => fun
  | [d1, d2, d3, g1] => { results := [.lit (.bool true)], args := [d1, d2, d3], vars := [g1] }
  | _ => none }
def fnExactSimilarityOfRow : OpenClaim := { program := "yteikcdofblclhaadoor", sum := "9b2a91e55613d31753ddeb461c8f05923eac5bebf77e37376d1d243defc87214", func := "loop.example/g01073/laws.FnExactSimilarityOf", spec := "fnExactSimilarityOf", unfollowed := true, recurses := true, named := ["loop.example/g01073/impl.smallPrimes"], apart := false, laid := [("loop.example/g01073/impl.smallPrimes", laid_loop_example_g01073_impl_smallPrimes)] }
def FnExactSimilarityOfSaid : Prop := fnExactSimilarityOfRow.holds Tryd.pinned (OpenSpec.ofChange fnExactSimilarityOfSpec)

/-- ITS FALSE NEIGHBOUR: 'it returns false'. Refute it at one input. -/
def fnExactSimilarityOfWrong : ChangeSpec := { name := "fnExactSimilarityOf", vars := ["loop.example/g01073/impl.smallPrimes"], fn := fun _ => fun
  | [d1, d2, d3, g1] => { results := [.lit (.bool false)], args := [d1, d2, d3], vars := [g1] }
  | _ => none }
def FnExactSimilarityOfWrongFalsely : Prop := fnExactSimilarityOfRow.holds Tryd.pinned (OpenSpec.ofChange fnExactSimilarityOfWrong)

/-- 'laws.FnExactRealizeSequence': WHATEVER THE INPUT: true; the input reads as it did. -/
def fnExactRealizeSequenceSpec : ChangeSpec := { name := "fnExactRealizeSequence", vars := ["loop.example/g01073/impl.smallPrimes"], fn := fun _ => fun
  | [d1, d2, g1] => { results := [.lit (.bool true)], args := [d1, d2], vars := [g1] }
  | _ => none }
def fnExactRealizeSequenceRow : OpenClaim := { program := "yteikcdofblclhaadoor", sum := "9b2a91e55613d31753ddeb461c8f05923eac5bebf77e37376d1d243defc87214", func := "loop.example/g01073/laws.FnExactRealizeSequence", spec := "fnExactRealizeSequence", unfollowed := true, recurses := true, named := ["loop.example/g01073/impl.smallPrimes"], apart := false, laid := [("loop.example/g01073/impl.smallPrimes", laid_loop_example_g01073_impl_smallPrimes)] }
def FnExactRealizeSequenceSaid : Prop := fnExactRealizeSequenceRow.holds Tryd.pinned (OpenSpec.ofChange fnExactRealizeSequenceSpec)

/-- ITS FALSE NEIGHBOUR: 'it returns false'. Refute it at one input. -/
def fnExactRealizeSequenceWrong : ChangeSpec := { name := "fnExactRealizeSequence", vars := ["loop.example/g01073/impl.smallPrimes"], fn := fun _ => fun
  | [d1, d2, g1] => { results := [.lit (.bool false)], args := [d1, d2], vars := [g1] }
  | _ => none }
def FnExactRealizeSequenceWrongFalsely : Prop := fnExactRealizeSequenceRow.holds Tryd.pinned (OpenSpec.ofChange fnExactRealizeSequenceWrong)

/-- 'laws.FnExactRealizeMarkov': WHATEVER THE INPUT: true; the input reads as it did. -/
def fnExactRealizeMarkovSpec : ChangeSpec := { name := "fnExactRealizeMarkov", vars := ["loop.example/g01073/impl.smallPrimes"], fn := fun _ => fun
  | [d1, d2, g1] => { results := [.lit (.bool true)], args := [d1, d2], vars := [g1] }
  | _ => none }
def fnExactRealizeMarkovRow : OpenClaim := { program := "yteikcdofblclhaadoor", sum := "9b2a91e55613d31753ddeb461c8f05923eac5bebf77e37376d1d243defc87214", func := "loop.example/g01073/laws.FnExactRealizeMarkov", spec := "fnExactRealizeMarkov", unfollowed := true, recurses := true, named := ["loop.example/g01073/impl.smallPrimes"], apart := false, laid := [("loop.example/g01073/impl.smallPrimes", laid_loop_example_g01073_impl_smallPrimes)] }
def FnExactRealizeMarkovSaid : Prop := fnExactRealizeMarkovRow.holds Tryd.pinned (OpenSpec.ofChange fnExactRealizeMarkovSpec)

/-- ITS FALSE NEIGHBOUR: 'it returns false'. Refute it at one input. -/
def fnExactRealizeMarkovWrong : ChangeSpec := { name := "fnExactRealizeMarkov", vars := ["loop.example/g01073/impl.smallPrimes"], fn := fun _ => fun
  | [d1, d2, g1] => { results := [.lit (.bool false)], args := [d1, d2], vars := [g1] }
  | _ => none }
def FnExactRealizeMarkovWrongFalsely : Prop := fnExactRealizeMarkovRow.holds Tryd.pinned (OpenSpec.ofChange fnExactRealizeMarkovWrong)

/- THE SECOND FORM. 'bulk': how many values and letters a reading holds, each counted each time it is reached (what is shared counts as often as it is met; a slice's spare places count too). A statement '..UptoSaid' is the law's where the arguments, and the package variables that the reading takes, are together of bulk at most 1048576: NARROWER than '..Said'. Prove '..Said' where nothing that the law and all that it calls make is longer than what came in: it says more and counts as full. Else prove '..UptoSaid'. A law counts once. -/
mutual
def uptoBulk {H : Type} : DataW H → Nat
  | .lit (.string bytes) => bytes.length + 1
  | .lit _ => 1
  | .nil => 1
  | .ptr d => uptoBulk d + 1
  | .slice elems spare => uptoBulkAll elems + uptoBulkAll spare + 1
  | .agg parts => uptoBulkAll parts + 1
  | .iface _ d => uptoBulk d + 1
  | .map entries => uptoBulkEntries entries + 1
  | .held _ => 1
def uptoBulkAll {H : Type} : List (DataW H) → Nat
  | [] => 0
  | d :: r => uptoBulk d + uptoBulkAll r
def uptoBulkEntries {H : Type} : List (Lit × DataW H) → Nat
  | [] => 0
  | x :: r => uptoBulkEntry x + uptoBulkEntries r
def uptoBulkEntry {H : Type} : Lit × DataW H → Nat
  | (.string bytes, d) => bytes.length + uptoBulk d + 1
  | (_, d) => uptoBulk d + 1
 end
def uptoSmall : (H : Type) → List (DataW H) → Bool := fun _ ds => decide (uptoBulkAll ds ≤ 1048576)
def OpenSpec.upto (s : _root_.Go.ChangeSpec) : _root_.Go.OpenSpec := { _root_.Go.OpenSpec.ofChange s with cond := some uptoSmall }

/-- 'laws.FnExactIsRealization', WHERE WHAT IT READS IS OF BULK AT MOST 1048576: true; the input reads as it did. -/
def fnExactIsRealizationUptoRow : OpenClaim := { program := "yteikcdofblclhaadoor", sum := "9b2a91e55613d31753ddeb461c8f05923eac5bebf77e37376d1d243defc87214", func := "loop.example/g01073/laws.FnExactIsRealization", spec := "fnExactIsRealization", unfollowed := true, recurses := true, named := ["loop.example/g01073/impl.smallPrimes"], apart := false, laid := [("loop.example/g01073/impl.smallPrimes", laid_loop_example_g01073_impl_smallPrimes)], narrowed := true }
def FnExactIsRealizationUptoSaid : Prop := fnExactIsRealizationUptoRow.holds Tryd.pinned (OpenSpec.upto fnExactIsRealizationSpec)

/-- 'laws.FnExactReachableSpace', WHERE WHAT IT READS IS OF BULK AT MOST 1048576: true; the input reads as it did. -/
def fnExactReachableSpaceUptoRow : OpenClaim := { program := "yteikcdofblclhaadoor", sum := "9b2a91e55613d31753ddeb461c8f05923eac5bebf77e37376d1d243defc87214", func := "loop.example/g01073/laws.FnExactReachableSpace", spec := "fnExactReachableSpace", unfollowed := true, recurses := true, named := ["loop.example/g01073/impl.smallPrimes"], apart := false, laid := [("loop.example/g01073/impl.smallPrimes", laid_loop_example_g01073_impl_smallPrimes)], narrowed := true }
def FnExactReachableSpaceUptoSaid : Prop := fnExactReachableSpaceUptoRow.holds Tryd.pinned (OpenSpec.upto fnExactReachableSpaceSpec)

/-- 'laws.FnExactRelationOfFunction', WHERE WHAT IT READS IS OF BULK AT MOST 1048576: true; the input reads as it did. -/
def fnExactRelationOfFunctionUptoRow : OpenClaim := { program := "yteikcdofblclhaadoor", sum := "9b2a91e55613d31753ddeb461c8f05923eac5bebf77e37376d1d243defc87214", func := "loop.example/g01073/laws.FnExactRelationOfFunction", spec := "fnExactRelationOfFunction", unfollowed := true, recurses := true, named := ["loop.example/g01073/impl.smallPrimes"], apart := false, laid := [("loop.example/g01073/impl.smallPrimes", laid_loop_example_g01073_impl_smallPrimes)], narrowed := true }
def FnExactRelationOfFunctionUptoSaid : Prop := fnExactRelationOfFunctionUptoRow.holds Tryd.pinned (OpenSpec.upto fnExactRelationOfFunctionSpec)

/-- 'laws.FnExactAlwaysInputs', WHERE WHAT IT READS IS OF BULK AT MOST 1048576: true; the input reads as it did. -/
def fnExactAlwaysInputsUptoRow : OpenClaim := { program := "yteikcdofblclhaadoor", sum := "9b2a91e55613d31753ddeb461c8f05923eac5bebf77e37376d1d243defc87214", func := "loop.example/g01073/laws.FnExactAlwaysInputs", spec := "fnExactAlwaysInputs", unfollowed := true, recurses := true, named := ["loop.example/g01073/impl.smallPrimes"], apart := false, laid := [("loop.example/g01073/impl.smallPrimes", laid_loop_example_g01073_impl_smallPrimes)], narrowed := true }
def FnExactAlwaysInputsUptoSaid : Prop := fnExactAlwaysInputsUptoRow.holds Tryd.pinned (OpenSpec.upto fnExactAlwaysInputsSpec)

/-- 'laws.FnExactIsInputChoice', WHERE WHAT IT READS IS OF BULK AT MOST 1048576: true; the input reads as it did. -/
def fnExactIsInputChoiceUptoRow : OpenClaim := { program := "yteikcdofblclhaadoor", sum := "9b2a91e55613d31753ddeb461c8f05923eac5bebf77e37376d1d243defc87214", func := "loop.example/g01073/laws.FnExactIsInputChoice", spec := "fnExactIsInputChoice", unfollowed := true, recurses := true, named := ["loop.example/g01073/impl.smallPrimes"], apart := false, laid := [("loop.example/g01073/impl.smallPrimes", laid_loop_example_g01073_impl_smallPrimes)], narrowed := true }
def FnExactIsInputChoiceUptoSaid : Prop := fnExactIsInputChoiceUptoRow.holds Tryd.pinned (OpenSpec.upto fnExactIsInputChoiceSpec)

/-- 'laws.FnExactIsMinimal', WHERE WHAT IT READS IS OF BULK AT MOST 1048576: true; the input reads as it did. -/
def fnExactIsMinimalUptoRow : OpenClaim := { program := "yteikcdofblclhaadoor", sum := "9b2a91e55613d31753ddeb461c8f05923eac5bebf77e37376d1d243defc87214", func := "loop.example/g01073/laws.FnExactIsMinimal", spec := "fnExactIsMinimal", unfollowed := true, recurses := true, named := ["loop.example/g01073/impl.smallPrimes"], apart := false, laid := [("loop.example/g01073/impl.smallPrimes", laid_loop_example_g01073_impl_smallPrimes)], narrowed := true }
def FnExactIsMinimalUptoSaid : Prop := fnExactIsMinimalUptoRow.holds Tryd.pinned (OpenSpec.upto fnExactIsMinimalSpec)

/-- 'laws.FnExactReplaceablePorts', WHERE WHAT IT READS IS OF BULK AT MOST 1048576: true; the input reads as it did. -/
def fnExactReplaceablePortsUptoRow : OpenClaim := { program := "yteikcdofblclhaadoor", sum := "9b2a91e55613d31753ddeb461c8f05923eac5bebf77e37376d1d243defc87214", func := "loop.example/g01073/laws.FnExactReplaceablePorts", spec := "fnExactReplaceablePorts", unfollowed := true, recurses := true, named := ["loop.example/g01073/impl.smallPrimes"], apart := false, laid := [("loop.example/g01073/impl.smallPrimes", laid_loop_example_g01073_impl_smallPrimes)], narrowed := true }
def FnExactReplaceablePortsUptoSaid : Prop := fnExactReplaceablePortsUptoRow.holds Tryd.pinned (OpenSpec.upto fnExactReplaceablePortsSpec)

/-- 'laws.FnExactHiddenSpace', WHERE WHAT IT READS IS OF BULK AT MOST 1048576: true; the input reads as it did. -/
def fnExactHiddenSpaceUptoRow : OpenClaim := { program := "yteikcdofblclhaadoor", sum := "9b2a91e55613d31753ddeb461c8f05923eac5bebf77e37376d1d243defc87214", func := "loop.example/g01073/laws.FnExactHiddenSpace", spec := "fnExactHiddenSpace", unfollowed := true, recurses := true, named := ["loop.example/g01073/impl.smallPrimes"], apart := false, laid := [("loop.example/g01073/impl.smallPrimes", laid_loop_example_g01073_impl_smallPrimes)], narrowed := true }
def FnExactHiddenSpaceUptoSaid : Prop := fnExactHiddenSpaceUptoRow.holds Tryd.pinned (OpenSpec.upto fnExactHiddenSpaceSpec)

/-- 'laws.FnExactMinimizeSpace', WHERE WHAT IT READS IS OF BULK AT MOST 1048576: true; the input reads as it did. -/
def fnExactMinimizeSpaceUptoRow : OpenClaim := { program := "yteikcdofblclhaadoor", sum := "9b2a91e55613d31753ddeb461c8f05923eac5bebf77e37376d1d243defc87214", func := "loop.example/g01073/laws.FnExactMinimizeSpace", spec := "fnExactMinimizeSpace", unfollowed := true, recurses := true, named := ["loop.example/g01073/impl.smallPrimes"], apart := false, laid := [("loop.example/g01073/impl.smallPrimes", laid_loop_example_g01073_impl_smallPrimes)], narrowed := true }
def FnExactMinimizeSpaceUptoSaid : Prop := fnExactMinimizeSpaceUptoRow.holds Tryd.pinned (OpenSpec.upto fnExactMinimizeSpaceSpec)

/-- 'laws.FnExactSimilarityOf', WHERE WHAT IT READS IS OF BULK AT MOST 1048576: true; the input reads as it did. -/
def fnExactSimilarityOfUptoRow : OpenClaim := { program := "yteikcdofblclhaadoor", sum := "9b2a91e55613d31753ddeb461c8f05923eac5bebf77e37376d1d243defc87214", func := "loop.example/g01073/laws.FnExactSimilarityOf", spec := "fnExactSimilarityOf", unfollowed := true, recurses := true, named := ["loop.example/g01073/impl.smallPrimes"], apart := false, laid := [("loop.example/g01073/impl.smallPrimes", laid_loop_example_g01073_impl_smallPrimes)], narrowed := true }
def FnExactSimilarityOfUptoSaid : Prop := fnExactSimilarityOfUptoRow.holds Tryd.pinned (OpenSpec.upto fnExactSimilarityOfSpec)

/-- 'laws.FnExactRealizeSequence', WHERE WHAT IT READS IS OF BULK AT MOST 1048576: true; the input reads as it did. -/
def fnExactRealizeSequenceUptoRow : OpenClaim := { program := "yteikcdofblclhaadoor", sum := "9b2a91e55613d31753ddeb461c8f05923eac5bebf77e37376d1d243defc87214", func := "loop.example/g01073/laws.FnExactRealizeSequence", spec := "fnExactRealizeSequence", unfollowed := true, recurses := true, named := ["loop.example/g01073/impl.smallPrimes"], apart := false, laid := [("loop.example/g01073/impl.smallPrimes", laid_loop_example_g01073_impl_smallPrimes)], narrowed := true }
def FnExactRealizeSequenceUptoSaid : Prop := fnExactRealizeSequenceUptoRow.holds Tryd.pinned (OpenSpec.upto fnExactRealizeSequenceSpec)

/-- 'laws.FnExactRealizeMarkov', WHERE WHAT IT READS IS OF BULK AT MOST 1048576: true; the input reads as it did. -/
def fnExactRealizeMarkovUptoRow : OpenClaim := { program := "yteikcdofblclhaadoor", sum := "9b2a91e55613d31753ddeb461c8f05923eac5bebf77e37376d1d243defc87214", func := "loop.example/g01073/laws.FnExactRealizeMarkov", spec := "fnExactRealizeMarkov", unfollowed := true, recurses := true, named := ["loop.example/g01073/impl.smallPrimes"], apart := false, laid := [("loop.example/g01073/impl.smallPrimes", laid_loop_example_g01073_impl_smallPrimes)], narrowed := true }
def FnExactRealizeMarkovUptoSaid : Prop := fnExactRealizeMarkovUptoRow.holds Tryd.pinned (OpenSpec.upto fnExactRealizeMarkovSpec)

end Rows
end Go.Proofs.YteikcdofblclhaaDoor
