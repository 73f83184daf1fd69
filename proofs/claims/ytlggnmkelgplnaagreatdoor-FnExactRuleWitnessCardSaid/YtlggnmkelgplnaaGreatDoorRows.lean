/-
  NARROWER THAN 'FOR EVERY INPUT', by the rows' own cells (each row's printed sentence says how): FnExactEqualTerms: laid · FnExactIncludedTerms: laid · FnExactMissingPair: laid · FnExactIsSoundRule: laid · FnExactRuleWitness: laid.
  DERIVED. THE GIVEN ROWS OF THIS SEAT. 5 by the template 'for every input the law returns true; each argument reads behind the call as it read before'; 0 by the template 'total and deterministic' (their statements: YtlggnmkelgplnaaGreatDoorTotals.lean).
  GIVEN WITH THE SEED: the statements are not yours to turn. If you find one false, say at which input.
  Laid BY PROGRAM, IN A SANDBOX (cutbox-rows.mjs): the forced cells as the released guide's own fill.sh prints them over the translation 50a68d6641be9a56… (all of the seat's roots in one cut). By AI agents, Wed Nov 11 2026. No macro, syntax, notation, axiom, sorry.
-/
import Derived.Test.YtlggnmkelgplnaaGreatDoorChecked
import GoSem.Claim
import GoSem.ClaimJoined
import GoSem.ClaimMapViews
import Derived.JoinedTies
import Derived.KernelRfl
namespace Go.Proofs.YtlggnmkelgplnaaGreatDoor
/- THE CELL 'sum', in the pinned program and in every row, IS THE sha256 OF THE DUMP (.gsa) THAT YtlggnmkelgplnaaGreatDoorProg.lean LOADS. Nothing in Lean hashes anything: it is a label: what it is worth is what the hold of that sum in a sandbox is worth. -/
noncomputable def Tryz.pinned : Pinned := { name := "ytlggnmkelgplnaagreatdoor", sum := "50a68d6641be9a562a10de0385d918f5079129470a4ed807cc31df7b198839e3", checked := Tryz.checked }
namespace Rows
def none {H : Type} : Left H := { results := [], args := [] }

/- WHAT THE LISTED PACKAGE-LEVEL VARIABLES READ AS WHEN THE CALL BEGINS. Each datum BY PROGRAM (the guide's laid-datum.mjs) off the statement by which the dump's own 'gosem.cut.vars' lays the variable. In a bare row this is a premise. The card (YtlggnmkelgplnaaGreatDoorCards.lean) ties it to the program's text. -/
def laid_loop_example_g01073_impl_smallPrimes {H : Type} : DataW H := .agg [.lit (.int .i64 2), .lit (.int .i64 3), .lit (.int .i64 5), .lit (.int .i64 7)]

/-- 'laws.FnExactEqualTerms': WHATEVER THE INPUT: true; the input reads as it did. -/
def fnExactEqualTermsSpec : ChangeSpec := { name := "fnExactEqualTerms", vars := ["loop.example/g01073/impl.smallPrimes"], fn := fun _ => fun
  | [d1, d2, d3, g1] => { results := [.lit (.bool true)], args := [d1, d2, d3], vars := [g1] }
  | _ => none }
def fnExactEqualTermsRow : OpenClaim := { program := "ytlggnmkelgplnaagreatdoor", sum := "50a68d6641be9a562a10de0385d918f5079129470a4ed807cc31df7b198839e3", func := "loop.example/g01073/laws.FnExactEqualTerms", spec := "fnExactEqualTerms", unfollowed := true, recurses := true, named := ["loop.example/g01073/impl.smallPrimes"], apart := false, laid := [("loop.example/g01073/impl.smallPrimes", laid_loop_example_g01073_impl_smallPrimes)] }
def FnExactEqualTermsSaid : Prop := fnExactEqualTermsRow.holds Tryz.pinned (OpenSpec.ofChange fnExactEqualTermsSpec)

/-- ITS FALSE NEIGHBOUR: 'it returns false'. Refute it at one input. -/
def fnExactEqualTermsWrong : ChangeSpec := { name := "fnExactEqualTerms", vars := ["loop.example/g01073/impl.smallPrimes"], fn := fun _ => fun
  | [d1, d2, d3, g1] => { results := [.lit (.bool false)], args := [d1, d2, d3], vars := [g1] }
  | _ => none }
def FnExactEqualTermsWrongFalsely : Prop := fnExactEqualTermsRow.holds Tryz.pinned (OpenSpec.ofChange fnExactEqualTermsWrong)

/-- 'laws.FnExactIncludedTerms': WHATEVER THE INPUT: true; the input reads as it did. -/
def fnExactIncludedTermsSpec : ChangeSpec := { name := "fnExactIncludedTerms", vars := ["loop.example/g01073/impl.smallPrimes"], fn := fun _ => fun
  | [d1, d2, d3, g1] => { results := [.lit (.bool true)], args := [d1, d2, d3], vars := [g1] }
  | _ => none }
def fnExactIncludedTermsRow : OpenClaim := { program := "ytlggnmkelgplnaagreatdoor", sum := "50a68d6641be9a562a10de0385d918f5079129470a4ed807cc31df7b198839e3", func := "loop.example/g01073/laws.FnExactIncludedTerms", spec := "fnExactIncludedTerms", unfollowed := true, recurses := true, named := ["loop.example/g01073/impl.smallPrimes"], apart := false, laid := [("loop.example/g01073/impl.smallPrimes", laid_loop_example_g01073_impl_smallPrimes)] }
def FnExactIncludedTermsSaid : Prop := fnExactIncludedTermsRow.holds Tryz.pinned (OpenSpec.ofChange fnExactIncludedTermsSpec)

/-- ITS FALSE NEIGHBOUR: 'it returns false'. Refute it at one input. -/
def fnExactIncludedTermsWrong : ChangeSpec := { name := "fnExactIncludedTerms", vars := ["loop.example/g01073/impl.smallPrimes"], fn := fun _ => fun
  | [d1, d2, d3, g1] => { results := [.lit (.bool false)], args := [d1, d2, d3], vars := [g1] }
  | _ => none }
def FnExactIncludedTermsWrongFalsely : Prop := fnExactIncludedTermsRow.holds Tryz.pinned (OpenSpec.ofChange fnExactIncludedTermsWrong)

/-- 'laws.FnExactMissingPair': WHATEVER THE INPUT: true; the input reads as it did. -/
def fnExactMissingPairSpec : ChangeSpec := { name := "fnExactMissingPair", vars := ["loop.example/g01073/impl.smallPrimes"], fn := fun _ => fun
  | [d1, d2, d3, g1] => { results := [.lit (.bool true)], args := [d1, d2, d3], vars := [g1] }
  | _ => none }
def fnExactMissingPairRow : OpenClaim := { program := "ytlggnmkelgplnaagreatdoor", sum := "50a68d6641be9a562a10de0385d918f5079129470a4ed807cc31df7b198839e3", func := "loop.example/g01073/laws.FnExactMissingPair", spec := "fnExactMissingPair", unfollowed := true, recurses := true, named := ["loop.example/g01073/impl.smallPrimes"], apart := false, laid := [("loop.example/g01073/impl.smallPrimes", laid_loop_example_g01073_impl_smallPrimes)] }
def FnExactMissingPairSaid : Prop := fnExactMissingPairRow.holds Tryz.pinned (OpenSpec.ofChange fnExactMissingPairSpec)

/-- ITS FALSE NEIGHBOUR: 'it returns false'. Refute it at one input. -/
def fnExactMissingPairWrong : ChangeSpec := { name := "fnExactMissingPair", vars := ["loop.example/g01073/impl.smallPrimes"], fn := fun _ => fun
  | [d1, d2, d3, g1] => { results := [.lit (.bool false)], args := [d1, d2, d3], vars := [g1] }
  | _ => none }
def FnExactMissingPairWrongFalsely : Prop := fnExactMissingPairRow.holds Tryz.pinned (OpenSpec.ofChange fnExactMissingPairWrong)

/-- 'laws.FnExactIsSoundRule': WHATEVER THE INPUT: true; the input reads as it did. -/
def fnExactIsSoundRuleSpec : ChangeSpec := { name := "fnExactIsSoundRule", vars := ["loop.example/g01073/impl.smallPrimes"], fn := fun _ => fun
  | [d1, d2, g1] => { results := [.lit (.bool true)], args := [d1, d2], vars := [g1] }
  | _ => none }
def fnExactIsSoundRuleRow : OpenClaim := { program := "ytlggnmkelgplnaagreatdoor", sum := "50a68d6641be9a562a10de0385d918f5079129470a4ed807cc31df7b198839e3", func := "loop.example/g01073/laws.FnExactIsSoundRule", spec := "fnExactIsSoundRule", unfollowed := true, recurses := true, named := ["loop.example/g01073/impl.smallPrimes"], apart := false, laid := [("loop.example/g01073/impl.smallPrimes", laid_loop_example_g01073_impl_smallPrimes)] }
def FnExactIsSoundRuleSaid : Prop := fnExactIsSoundRuleRow.holds Tryz.pinned (OpenSpec.ofChange fnExactIsSoundRuleSpec)

/-- ITS FALSE NEIGHBOUR: 'it returns false'. Refute it at one input. -/
def fnExactIsSoundRuleWrong : ChangeSpec := { name := "fnExactIsSoundRule", vars := ["loop.example/g01073/impl.smallPrimes"], fn := fun _ => fun
  | [d1, d2, g1] => { results := [.lit (.bool false)], args := [d1, d2], vars := [g1] }
  | _ => none }
def FnExactIsSoundRuleWrongFalsely : Prop := fnExactIsSoundRuleRow.holds Tryz.pinned (OpenSpec.ofChange fnExactIsSoundRuleWrong)

/-- 'laws.FnExactRuleWitness': WHATEVER THE INPUT: true; the input reads as it did. -/
def fnExactRuleWitnessSpec : ChangeSpec := { name := "fnExactRuleWitness", vars := ["loop.example/g01073/impl.smallPrimes"], fn := fun _ => fun
  | [d1, d2, g1] => { results := [.lit (.bool true)], args := [d1, d2], vars := [g1] }
  | _ => none }
def fnExactRuleWitnessRow : OpenClaim := { program := "ytlggnmkelgplnaagreatdoor", sum := "50a68d6641be9a562a10de0385d918f5079129470a4ed807cc31df7b198839e3", func := "loop.example/g01073/laws.FnExactRuleWitness", spec := "fnExactRuleWitness", unfollowed := true, recurses := true, named := ["loop.example/g01073/impl.smallPrimes"], apart := false, laid := [("loop.example/g01073/impl.smallPrimes", laid_loop_example_g01073_impl_smallPrimes)] }
def FnExactRuleWitnessSaid : Prop := fnExactRuleWitnessRow.holds Tryz.pinned (OpenSpec.ofChange fnExactRuleWitnessSpec)

/-- ITS FALSE NEIGHBOUR: 'it returns false'. Refute it at one input. -/
def fnExactRuleWitnessWrong : ChangeSpec := { name := "fnExactRuleWitness", vars := ["loop.example/g01073/impl.smallPrimes"], fn := fun _ => fun
  | [d1, d2, g1] => { results := [.lit (.bool false)], args := [d1, d2], vars := [g1] }
  | _ => none }
def FnExactRuleWitnessWrongFalsely : Prop := fnExactRuleWitnessRow.holds Tryz.pinned (OpenSpec.ofChange fnExactRuleWitnessWrong)

/- THE SECOND FORM. 'bulk': how many values and letters a reading holds, each counted each time it is reached (what is shared counts as often as it is met; a slice's spare places count too). A statement '..UptoSaid' is the law's where the arguments, and the package variables that the reading takes, are together of bulk at most 1048576: NARROWER than '..Said'. Prove '..Said' where nothing that the law and all that it calls make is longer than what came in: it says more and counts as full. Else prove '..UptoSaid'. A law counts once. -/
mutual
def uptoBulk {H : Type} : DataW H → Nat
  | .lit (.string bytes) => bytes.length + 1
  | .lit _ => 1
  | .nil => 1
  | .ptr d => uptoBulk d + 1
  | .slice elems spare => uptoBulkAll elems + uptoBulkAll spare + 1
  | .agg parts => uptoBulkAll parts + 1
  | .iface _ d => uptoBulk d + 1
  | .map entries => uptoBulkEntries entries + 1
  | .held _ => 1
def uptoBulkAll {H : Type} : List (DataW H) → Nat
  | [] => 0
  | d :: r => uptoBulk d + uptoBulkAll r
def uptoBulkEntries {H : Type} : List (Lit × DataW H) → Nat
  | [] => 0
  | x :: r => uptoBulkEntry x + uptoBulkEntries r
def uptoBulkEntry {H : Type} : Lit × DataW H → Nat
  | (.string bytes, d) => bytes.length + uptoBulk d + 1
  | (_, d) => uptoBulk d + 1
 end
def uptoSmall : (H : Type) → List (DataW H) → Bool := fun _ ds => decide (uptoBulkAll ds ≤ 1048576)
def OpenSpec.upto (s : _root_.Go.ChangeSpec) : _root_.Go.OpenSpec := { _root_.Go.OpenSpec.ofChange s with cond := some uptoSmall }

/-- 'laws.FnExactEqualTerms', WHERE WHAT IT READS IS OF BULK AT MOST 1048576: true; the input reads as it did. -/
def fnExactEqualTermsUptoRow : OpenClaim := { program := "ytlggnmkelgplnaagreatdoor", sum := "50a68d6641be9a562a10de0385d918f5079129470a4ed807cc31df7b198839e3", func := "loop.example/g01073/laws.FnExactEqualTerms", spec := "fnExactEqualTerms", unfollowed := true, recurses := true, named := ["loop.example/g01073/impl.smallPrimes"], apart := false, laid := [("loop.example/g01073/impl.smallPrimes", laid_loop_example_g01073_impl_smallPrimes)], narrowed := true }
def FnExactEqualTermsUptoSaid : Prop := fnExactEqualTermsUptoRow.holds Tryz.pinned (OpenSpec.upto fnExactEqualTermsSpec)

/-- 'laws.FnExactIncludedTerms', WHERE WHAT IT READS IS OF BULK AT MOST 1048576: true; the input reads as it did. -/
def fnExactIncludedTermsUptoRow : OpenClaim := { program := "ytlggnmkelgplnaagreatdoor", sum := "50a68d6641be9a562a10de0385d918f5079129470a4ed807cc31df7b198839e3", func := "loop.example/g01073/laws.FnExactIncludedTerms", spec := "fnExactIncludedTerms", unfollowed := true, recurses := true, named := ["loop.example/g01073/impl.smallPrimes"], apart := false, laid := [("loop.example/g01073/impl.smallPrimes", laid_loop_example_g01073_impl_smallPrimes)], narrowed := true }
def FnExactIncludedTermsUptoSaid : Prop := fnExactIncludedTermsUptoRow.holds Tryz.pinned (OpenSpec.upto fnExactIncludedTermsSpec)

/-- 'laws.FnExactMissingPair', WHERE WHAT IT READS IS OF BULK AT MOST 1048576: true; the input reads as it did. -/
def fnExactMissingPairUptoRow : OpenClaim := { program := "ytlggnmkelgplnaagreatdoor", sum := "50a68d6641be9a562a10de0385d918f5079129470a4ed807cc31df7b198839e3", func := "loop.example/g01073/laws.FnExactMissingPair", spec := "fnExactMissingPair", unfollowed := true, recurses := true, named := ["loop.example/g01073/impl.smallPrimes"], apart := false, laid := [("loop.example/g01073/impl.smallPrimes", laid_loop_example_g01073_impl_smallPrimes)], narrowed := true }
def FnExactMissingPairUptoSaid : Prop := fnExactMissingPairUptoRow.holds Tryz.pinned (OpenSpec.upto fnExactMissingPairSpec)

/-- 'laws.FnExactIsSoundRule', WHERE WHAT IT READS IS OF BULK AT MOST 1048576: true; the input reads as it did. -/
def fnExactIsSoundRuleUptoRow : OpenClaim := { program := "ytlggnmkelgplnaagreatdoor", sum := "50a68d6641be9a562a10de0385d918f5079129470a4ed807cc31df7b198839e3", func := "loop.example/g01073/laws.FnExactIsSoundRule", spec := "fnExactIsSoundRule", unfollowed := true, recurses := true, named := ["loop.example/g01073/impl.smallPrimes"], apart := false, laid := [("loop.example/g01073/impl.smallPrimes", laid_loop_example_g01073_impl_smallPrimes)], narrowed := true }
def FnExactIsSoundRuleUptoSaid : Prop := fnExactIsSoundRuleUptoRow.holds Tryz.pinned (OpenSpec.upto fnExactIsSoundRuleSpec)

/-- 'laws.FnExactRuleWitness', WHERE WHAT IT READS IS OF BULK AT MOST 1048576: true; the input reads as it did. -/
def fnExactRuleWitnessUptoRow : OpenClaim := { program := "ytlggnmkelgplnaagreatdoor", sum := "50a68d6641be9a562a10de0385d918f5079129470a4ed807cc31df7b198839e3", func := "loop.example/g01073/laws.FnExactRuleWitness", spec := "fnExactRuleWitness", unfollowed := true, recurses := true, named := ["loop.example/g01073/impl.smallPrimes"], apart := false, laid := [("loop.example/g01073/impl.smallPrimes", laid_loop_example_g01073_impl_smallPrimes)], narrowed := true }
def FnExactRuleWitnessUptoSaid : Prop := fnExactRuleWitnessUptoRow.holds Tryz.pinned (OpenSpec.upto fnExactRuleWitnessSpec)

end Rows
end Go.Proofs.YtlggnmkelgplnaaGreatDoor
