/-
  No cell of these rows narrows 'for every input' (looked for: loops, veiled, ifaces, maps, wideKeys, modest, calm, conditions, laid).
  DERIVED. THE GIVEN ROWS OF THIS SEAT. 2 by the template 'for every input the law returns true; each argument reads behind the call as it read before'; 0 by the template 'total and deterministic' (their statements: YtciiinolpaohpaaGreatTotals.lean).
  GIVEN WITH THE SEED: the statements are not yours to turn. If you find one false, say at which input.
  Laid BY PROGRAM, IN A SANDBOX (cutbox-rows.mjs): the forced cells as the released guide's own fill.sh prints them over the translation 59463660aa69cc8c… (all of the seat's roots in one cut). By AI agents, Wed Nov 11 2026. No macro, syntax, notation, axiom, sorry.
-/
import Derived.Test.YtciiinolpaohpaaGreatChecked
import GoSem.Claim
import GoSem.ClaimJoined
import GoSem.ClaimMapViews
import Derived.JoinedTies
import Derived.KernelRfl
namespace Go.Proofs.YtciiinolpaohpaaGreat
/- THE CELL 'sum', in the pinned program and in every row, IS THE sha256 OF THE DUMP (.gsa) THAT YtciiinolpaohpaaGreatProg.lean LOADS. Nothing in Lean hashes anything: it is a label: what it is worth is what the hold of that sum in a sandbox is worth. -/
noncomputable def Tryz.pinned : Pinned := { name := "ytciiinolpaohpaagreat", sum := "59463660aa69cc8c877ddbe153ff7cffca80cee9e769fce8cb3fa2d3674fb76e", checked := Tryz.checked }
namespace Rows
def none {H : Type} : Left H := { results := [], args := [] }

/-- 'laws.FnExactWeightChange': WHATEVER THE INPUT: true; the input reads as it did. -/
def fnExactWeightChangeSpec : ChangeSpec := { name := "fnExactWeightChange", fn := fun _ => fun
  | [d1, d2] => { results := [.lit (.bool true)], args := [d1, d2] }
  | _ => none }
def fnExactWeightChangeRow : OpenClaim := { program := "ytciiinolpaohpaagreat", sum := "59463660aa69cc8c877ddbe153ff7cffca80cee9e769fce8cb3fa2d3674fb76e", func := "loop.example/g01073/laws.FnExactWeightChange", spec := "fnExactWeightChange", unfollowed := true, recurses := true, apart := false }
def FnExactWeightChangeSaid : Prop := fnExactWeightChangeRow.holds Tryz.pinned (OpenSpec.ofChange fnExactWeightChangeSpec)

/-- ITS FALSE NEIGHBOUR: 'it returns false'. Refute it at one input. -/
def fnExactWeightChangeWrong : ChangeSpec := { name := "fnExactWeightChange", fn := fun _ => fun
  | [d1, d2] => { results := [.lit (.bool false)], args := [d1, d2] }
  | _ => none }
def FnExactWeightChangeWrongFalsely : Prop := fnExactWeightChangeRow.holds Tryz.pinned (OpenSpec.ofChange fnExactWeightChangeWrong)

/-- 'laws.FnExactReverseRule': WHATEVER THE INPUT: true; the input reads as it did. -/
def fnExactReverseRuleSpec : ChangeSpec := { name := "fnExactReverseRule", fn := fun _ => fun
  | [d] => { results := [.lit (.bool true)], args := [d] }
  | _ => none }
def fnExactReverseRuleRow : OpenClaim := { program := "ytciiinolpaohpaagreat", sum := "59463660aa69cc8c877ddbe153ff7cffca80cee9e769fce8cb3fa2d3674fb76e", func := "loop.example/g01073/laws.FnExactReverseRule", spec := "fnExactReverseRule", unfollowed := true, recurses := true, apart := false }
def FnExactReverseRuleSaid : Prop := fnExactReverseRuleRow.holds Tryz.pinned (OpenSpec.ofChange fnExactReverseRuleSpec)

/-- ITS FALSE NEIGHBOUR: 'it returns false'. Refute it at one input. -/
def fnExactReverseRuleWrong : ChangeSpec := { name := "fnExactReverseRule", fn := fun _ => fun
  | [d] => { results := [.lit (.bool false)], args := [d] }
  | _ => none }
def FnExactReverseRuleWrongFalsely : Prop := fnExactReverseRuleRow.holds Tryz.pinned (OpenSpec.ofChange fnExactReverseRuleWrong)

/- THE SECOND FORM. 'bulk': how many values and letters a reading holds, each counted each time it is reached (what is shared counts as often as it is met; a slice's spare places count too). A statement '..UptoSaid' is the law's where the arguments, and the package variables that the reading takes, are together of bulk at most 1048576: NARROWER than '..Said'. Prove '..Said' where nothing that the law and all that it calls make is longer than what came in: it says more and counts as full. Else prove '..UptoSaid'. A law counts once. -/
mutual
def uptoBulk {H : Type} : DataW H → Nat
  | .lit (.string bytes) => bytes.length + 1
  | .lit _ => 1
  | .nil => 1
  | .ptr d => uptoBulk d + 1
  | .slice elems spare => uptoBulkAll elems + uptoBulkAll spare + 1
  | .agg parts => uptoBulkAll parts + 1
  | .iface _ d => uptoBulk d + 1
  | .map entries => uptoBulkEntries entries + 1
  | .held _ => 1
def uptoBulkAll {H : Type} : List (DataW H) → Nat
  | [] => 0
  | d :: r => uptoBulk d + uptoBulkAll r
def uptoBulkEntries {H : Type} : List (Lit × DataW H) → Nat
  | [] => 0
  | x :: r => uptoBulkEntry x + uptoBulkEntries r
def uptoBulkEntry {H : Type} : Lit × DataW H → Nat
  | (.string bytes, d) => bytes.length + uptoBulk d + 1
  | (_, d) => uptoBulk d + 1
 end
def uptoSmall : (H : Type) → List (DataW H) → Bool := fun _ ds => decide (uptoBulkAll ds ≤ 1048576)
def OpenSpec.upto (s : _root_.Go.ChangeSpec) : _root_.Go.OpenSpec := { _root_.Go.OpenSpec.ofChange s with cond := some uptoSmall }

/-- 'laws.FnExactWeightChange', WHERE WHAT IT READS IS OF BULK AT MOST 1048576: true; the input reads as it did. -/
def fnExactWeightChangeUptoRow : OpenClaim := { program := "ytciiinolpaohpaagreat", sum := "59463660aa69cc8c877ddbe153ff7cffca80cee9e769fce8cb3fa2d3674fb76e", func := "loop.example/g01073/laws.FnExactWeightChange", spec := "fnExactWeightChange", unfollowed := true, recurses := true, apart := false, narrowed := true }
def FnExactWeightChangeUptoSaid : Prop := fnExactWeightChangeUptoRow.holds Tryz.pinned (OpenSpec.upto fnExactWeightChangeSpec)

/-- 'laws.FnExactReverseRule', WHERE WHAT IT READS IS OF BULK AT MOST 1048576: true; the input reads as it did. -/
def fnExactReverseRuleUptoRow : OpenClaim := { program := "ytciiinolpaohpaagreat", sum := "59463660aa69cc8c877ddbe153ff7cffca80cee9e769fce8cb3fa2d3674fb76e", func := "loop.example/g01073/laws.FnExactReverseRule", spec := "fnExactReverseRule", unfollowed := true, recurses := true, apart := false, narrowed := true }
def FnExactReverseRuleUptoSaid : Prop := fnExactReverseRuleUptoRow.holds Tryz.pinned (OpenSpec.upto fnExactReverseRuleSpec)

end Rows
end Go.Proofs.YtciiinolpaohpaaGreat
