/-
  No cell of these rows narrows 'for every input' (looked for: loops, veiled, ifaces, maps, wideKeys, modest, calm, conditions, laid).
  DERIVED. THE GIVEN ROWS OF THIS SEAT. 6 by the template 'for every input the law returns true; each argument reads behind the call as it read before'; 0 by the template 'total and deterministic' (their statements: YtgfnophfoccamaaTotals.lean).
  GIVEN WITH THE SEED: the statements are not yours to turn. If you find one false, say at which input.
  Laid BY PROGRAM, IN A SANDBOX (cutbox-rows.mjs): the forced cells as the released guide's own fill.sh prints them over the translation e6fcae3b2af4a38a… (all of the seat's roots in one cut). By AI agents, Wed Nov 11 2026. No macro, syntax, notation, axiom, sorry.
-/
import Derived.Test.YtgfnophfoccamaaChecked
import GoSem.Claim
import GoSem.ClaimJoined
import GoSem.ClaimMapViews
import Derived.JoinedTies
import Derived.KernelRfl
namespace Go.Proofs.Ytgfnophfoccamaa
/- THE CELL 'sum', in the pinned program and in every row, IS THE sha256 OF THE DUMP (.gsa) THAT YtgfnophfoccamaaProg.lean LOADS. Nothing in Lean hashes anything: it is a label: what it is worth is what the hold of that sum in a sandbox is worth. -/
noncomputable def Try.pinned : Pinned := { name := "ytgfnophfoccamaa", sum := "e6fcae3b2af4a38a5a5f5735281c71b99fccd441ee3a2c69716e2b07a64f63b0", checked := Try.checked }
namespace Rows
def none {H : Type} : Left H := { results := [], args := [] }

/-- 'laws.FnExactReachableOutputs': WHATEVER THE INPUT: true; the input reads as it did. -/
def fnExactReachableOutputsSpec : ChangeSpec := { name := "fnExactReachableOutputs", fn := fun _ => fun
  | [d] => { results := [.lit (.bool true)], args := [d] }
  | _ => none }
def fnExactReachableOutputsRow : OpenClaim := { program := "ytgfnophfoccamaa", sum := "e6fcae3b2af4a38a5a5f5735281c71b99fccd441ee3a2c69716e2b07a64f63b0", func := "loop.example/g01073/laws.FnExactReachableOutputs", spec := "fnExactReachableOutputs", unfollowed := true, recurses := true, apart := false }
def FnExactReachableOutputsSaid : Prop := fnExactReachableOutputsRow.holds Try.pinned (OpenSpec.ofChange fnExactReachableOutputsSpec)

/-- ITS FALSE NEIGHBOUR: 'it returns false'. Refute it at one input. -/
def fnExactReachableOutputsWrong : ChangeSpec := { name := "fnExactReachableOutputs", fn := fun _ => fun
  | [d] => { results := [.lit (.bool false)], args := [d] }
  | _ => none }
def FnExactReachableOutputsWrongFalsely : Prop := fnExactReachableOutputsRow.holds Try.pinned (OpenSpec.ofChange fnExactReachableOutputsWrong)

/-- 'laws.FnExactReachableWires': WHATEVER THE INPUT: true; the input reads as it did. -/
def fnExactReachableWiresSpec : ChangeSpec := { name := "fnExactReachableWires", fn := fun _ => fun
  | [d1, d2] => { results := [.lit (.bool true)], args := [d1, d2] }
  | _ => none }
def fnExactReachableWiresRow : OpenClaim := { program := "ytgfnophfoccamaa", sum := "e6fcae3b2af4a38a5a5f5735281c71b99fccd441ee3a2c69716e2b07a64f63b0", func := "loop.example/g01073/laws.FnExactReachableWires", spec := "fnExactReachableWires", unfollowed := true, recurses := true, apart := false }
def FnExactReachableWiresSaid : Prop := fnExactReachableWiresRow.holds Try.pinned (OpenSpec.ofChange fnExactReachableWiresSpec)

/-- ITS FALSE NEIGHBOUR: 'it returns false'. Refute it at one input. -/
def fnExactReachableWiresWrong : ChangeSpec := { name := "fnExactReachableWires", fn := fun _ => fun
  | [d1, d2] => { results := [.lit (.bool false)], args := [d1, d2] }
  | _ => none }
def FnExactReachableWiresWrongFalsely : Prop := fnExactReachableWiresRow.holds Try.pinned (OpenSpec.ofChange fnExactReachableWiresWrong)

/-- 'laws.FnExactParGraphs': WHATEVER THE INPUT: true; the input reads as it did. -/
def fnExactParGraphsSpec : ChangeSpec := { name := "fnExactParGraphs", fn := fun _ => fun
  | [d1, d2] => { results := [.lit (.bool true)], args := [d1, d2] }
  | _ => none }
def fnExactParGraphsRow : OpenClaim := { program := "ytgfnophfoccamaa", sum := "e6fcae3b2af4a38a5a5f5735281c71b99fccd441ee3a2c69716e2b07a64f63b0", func := "loop.example/g01073/laws.FnExactParGraphs", spec := "fnExactParGraphs", unfollowed := true, recurses := true, apart := false }
def FnExactParGraphsSaid : Prop := fnExactParGraphsRow.holds Try.pinned (OpenSpec.ofChange fnExactParGraphsSpec)

/-- ITS FALSE NEIGHBOUR: 'it returns false'. Refute it at one input. -/
def fnExactParGraphsWrong : ChangeSpec := { name := "fnExactParGraphs", fn := fun _ => fun
  | [d1, d2] => { results := [.lit (.bool false)], args := [d1, d2] }
  | _ => none }
def FnExactParGraphsWrongFalsely : Prop := fnExactParGraphsRow.holds Try.pinned (OpenSpec.ofChange fnExactParGraphsWrong)

/-- 'laws.FnExactSeqGraphs': WHATEVER THE INPUT: true; the input reads as it did. -/
def fnExactSeqGraphsSpec : ChangeSpec := { name := "fnExactSeqGraphs", fn := fun _ => fun
  | [d1, d2] => { results := [.lit (.bool true)], args := [d1, d2] }
  | _ => none }
def fnExactSeqGraphsRow : OpenClaim := { program := "ytgfnophfoccamaa", sum := "e6fcae3b2af4a38a5a5f5735281c71b99fccd441ee3a2c69716e2b07a64f63b0", func := "loop.example/g01073/laws.FnExactSeqGraphs", spec := "fnExactSeqGraphs", unfollowed := true, recurses := true, apart := false }
def FnExactSeqGraphsSaid : Prop := fnExactSeqGraphsRow.holds Try.pinned (OpenSpec.ofChange fnExactSeqGraphsSpec)

/-- ITS FALSE NEIGHBOUR: 'it returns false'. Refute it at one input. -/
def fnExactSeqGraphsWrong : ChangeSpec := { name := "fnExactSeqGraphs", fn := fun _ => fun
  | [d1, d2] => { results := [.lit (.bool false)], args := [d1, d2] }
  | _ => none }
def FnExactSeqGraphsWrongFalsely : Prop := fnExactSeqGraphsRow.holds Try.pinned (OpenSpec.ofChange fnExactSeqGraphsWrong)

/-- 'laws.FnExactIsConvex': WHATEVER THE INPUT: true; the input reads as it did. -/
def fnExactIsConvexSpec : ChangeSpec := { name := "fnExactIsConvex", fn := fun _ => fun
  | [d1, d2, d3] => { results := [.lit (.bool true)], args := [d1, d2, d3] }
  | _ => none }
def fnExactIsConvexRow : OpenClaim := { program := "ytgfnophfoccamaa", sum := "e6fcae3b2af4a38a5a5f5735281c71b99fccd441ee3a2c69716e2b07a64f63b0", func := "loop.example/g01073/laws.FnExactIsConvex", spec := "fnExactIsConvex", unfollowed := true, recurses := true, apart := false }
def FnExactIsConvexSaid : Prop := fnExactIsConvexRow.holds Try.pinned (OpenSpec.ofChange fnExactIsConvexSpec)

/-- ITS FALSE NEIGHBOUR: 'it returns false'. Refute it at one input. -/
def fnExactIsConvexWrong : ChangeSpec := { name := "fnExactIsConvex", fn := fun _ => fun
  | [d1, d2, d3] => { results := [.lit (.bool false)], args := [d1, d2, d3] }
  | _ => none }
def FnExactIsConvexWrongFalsely : Prop := fnExactIsConvexRow.holds Try.pinned (OpenSpec.ofChange fnExactIsConvexWrong)

/-- 'laws.FnExactGraphOf': WHATEVER THE INPUT: true; the input reads as it did. -/
def fnExactGraphOfSpec : ChangeSpec := { name := "fnExactGraphOf", fn := fun _ => fun
  | [d] => { results := [.lit (.bool true)], args := [d] }
  | _ => none }
def fnExactGraphOfRow : OpenClaim := { program := "ytgfnophfoccamaa", sum := "e6fcae3b2af4a38a5a5f5735281c71b99fccd441ee3a2c69716e2b07a64f63b0", func := "loop.example/g01073/laws.FnExactGraphOf", spec := "fnExactGraphOf", unfollowed := true, recurses := true, apart := false }
def FnExactGraphOfSaid : Prop := fnExactGraphOfRow.holds Try.pinned (OpenSpec.ofChange fnExactGraphOfSpec)

/-- ITS FALSE NEIGHBOUR: 'it returns false'. Refute it at one input. -/
def fnExactGraphOfWrong : ChangeSpec := { name := "fnExactGraphOf", fn := fun _ => fun
  | [d] => { results := [.lit (.bool false)], args := [d] }
  | _ => none }
def FnExactGraphOfWrongFalsely : Prop := fnExactGraphOfRow.holds Try.pinned (OpenSpec.ofChange fnExactGraphOfWrong)

/- THE SECOND FORM. 'bulk': how many values and letters a reading holds, each counted each time it is reached (what is shared counts as often as it is met; a slice's spare places count too). A statement '..UptoSaid' is the law's where the arguments, and the package variables that the reading takes, are together of bulk at most 1048576: NARROWER than '..Said'. Prove '..Said' where nothing that the law and all that it calls make is longer than what came in: it says more and counts as full. Else prove '..UptoSaid'. A law counts once. -/
mutual
def uptoBulk {H : Type} : DataW H → Nat
  | .lit (.string bytes) => bytes.length + 1
  | .lit _ => 1
  | .nil => 1
  | .ptr d => uptoBulk d + 1
  | .slice elems spare => uptoBulkAll elems + uptoBulkAll spare + 1
  | .agg parts => uptoBulkAll parts + 1
  | .iface _ d => uptoBulk d + 1
  | .map entries => uptoBulkEntries entries + 1
  | .held _ => 1
def uptoBulkAll {H : Type} : List (DataW H) → Nat
  | [] => 0
  | d :: r => uptoBulk d + uptoBulkAll r
def uptoBulkEntries {H : Type} : List (Lit × DataW H) → Nat
  | [] => 0
  | x :: r => uptoBulkEntry x + uptoBulkEntries r
def uptoBulkEntry {H : Type} : Lit × DataW H → Nat
  | (.string bytes, d) => bytes.length + uptoBulk d + 1
  | (_, d) => uptoBulk d + 1
 end
def uptoSmall : (H : Type) → List (DataW H) → Bool := fun _ ds => decide (uptoBulkAll ds ≤ 1048576)
def OpenSpec.upto (s : _root_.Go.ChangeSpec) : _root_.Go.OpenSpec := { _root_.Go.OpenSpec.ofChange s with cond := some uptoSmall }

/-- 'laws.FnExactReachableOutputs', WHERE WHAT IT READS IS OF BULK AT MOST 1048576: true; the input reads as it did. -/
def fnExactReachableOutputsUptoRow : OpenClaim := { program := "ytgfnophfoccamaa", sum := "e6fcae3b2af4a38a5a5f5735281c71b99fccd441ee3a2c69716e2b07a64f63b0", func := "loop.example/g01073/laws.FnExactReachableOutputs", spec := "fnExactReachableOutputs", unfollowed := true, recurses := true, apart := false, narrowed := true }
def FnExactReachableOutputsUptoSaid : Prop := fnExactReachableOutputsUptoRow.holds Try.pinned (OpenSpec.upto fnExactReachableOutputsSpec)

/-- 'laws.FnExactReachableWires', WHERE WHAT IT READS IS OF BULK AT MOST 1048576: true; the input reads as it did. -/
def fnExactReachableWiresUptoRow : OpenClaim := { program := "ytgfnophfoccamaa", sum := "e6fcae3b2af4a38a5a5f5735281c71b99fccd441ee3a2c69716e2b07a64f63b0", func := "loop.example/g01073/laws.FnExactReachableWires", spec := "fnExactReachableWires", unfollowed := true, recurses := true, apart := false, narrowed := true }
def FnExactReachableWiresUptoSaid : Prop := fnExactReachableWiresUptoRow.holds Try.pinned (OpenSpec.upto fnExactReachableWiresSpec)

/-- 'laws.FnExactParGraphs', WHERE WHAT IT READS IS OF BULK AT MOST 1048576: true; the input reads as it did. -/
def fnExactParGraphsUptoRow : OpenClaim := { program := "ytgfnophfoccamaa", sum := "e6fcae3b2af4a38a5a5f5735281c71b99fccd441ee3a2c69716e2b07a64f63b0", func := "loop.example/g01073/laws.FnExactParGraphs", spec := "fnExactParGraphs", unfollowed := true, recurses := true, apart := false, narrowed := true }
def FnExactParGraphsUptoSaid : Prop := fnExactParGraphsUptoRow.holds Try.pinned (OpenSpec.upto fnExactParGraphsSpec)

/-- 'laws.FnExactSeqGraphs', WHERE WHAT IT READS IS OF BULK AT MOST 1048576: true; the input reads as it did. -/
def fnExactSeqGraphsUptoRow : OpenClaim := { program := "ytgfnophfoccamaa", sum := "e6fcae3b2af4a38a5a5f5735281c71b99fccd441ee3a2c69716e2b07a64f63b0", func := "loop.example/g01073/laws.FnExactSeqGraphs", spec := "fnExactSeqGraphs", unfollowed := true, recurses := true, apart := false, narrowed := true }
def FnExactSeqGraphsUptoSaid : Prop := fnExactSeqGraphsUptoRow.holds Try.pinned (OpenSpec.upto fnExactSeqGraphsSpec)

/-- 'laws.FnExactIsConvex', WHERE WHAT IT READS IS OF BULK AT MOST 1048576: true; the input reads as it did. -/
def fnExactIsConvexUptoRow : OpenClaim := { program := "ytgfnophfoccamaa", sum := "e6fcae3b2af4a38a5a5f5735281c71b99fccd441ee3a2c69716e2b07a64f63b0", func := "loop.example/g01073/laws.FnExactIsConvex", spec := "fnExactIsConvex", unfollowed := true, recurses := true, apart := false, narrowed := true }
def FnExactIsConvexUptoSaid : Prop := fnExactIsConvexUptoRow.holds Try.pinned (OpenSpec.upto fnExactIsConvexSpec)

/-- 'laws.FnExactGraphOf', WHERE WHAT IT READS IS OF BULK AT MOST 1048576: true; the input reads as it did. -/
def fnExactGraphOfUptoRow : OpenClaim := { program := "ytgfnophfoccamaa", sum := "e6fcae3b2af4a38a5a5f5735281c71b99fccd441ee3a2c69716e2b07a64f63b0", func := "loop.example/g01073/laws.FnExactGraphOf", spec := "fnExactGraphOf", unfollowed := true, recurses := true, apart := false, narrowed := true }
def FnExactGraphOfUptoSaid : Prop := fnExactGraphOfUptoRow.holds Try.pinned (OpenSpec.upto fnExactGraphOfSpec)

end Rows
end Go.Proofs.Ytgfnophfoccamaa
