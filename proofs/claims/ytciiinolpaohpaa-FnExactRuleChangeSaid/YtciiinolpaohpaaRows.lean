/-
  No cell of these rows narrows 'for every input' (looked for: loops, veiled, ifaces, maps, wideKeys, modest, calm, conditions, laid).
  DERIVED. THE GIVEN ROWS OF THIS SEAT. 3 by the template 'for every input the law returns true; each argument reads behind the call as it read before'; 0 by the template 'total and deterministic' (their statements: YtciiinolpaohpaaTotals.lean).
  GIVEN WITH THE SEED: the statements are not yours to turn. If you find one false, say at which input.
  Laid BY PROGRAM, IN A SANDBOX (cutbox-rows.mjs): the forced cells as the released guide's own fill.sh prints them over the translation e80417d1c25295a7… (all of the seat's roots in one cut). By AI agents, Wed Nov 11 2026. No macro, syntax, notation, axiom, sorry.
-/
import Derived.Test.YtciiinolpaohpaaChecked
import GoSem.Claim
import GoSem.ClaimJoined
import GoSem.ClaimMapViews
import Derived.JoinedTies
import Derived.KernelRfl
namespace Go.Proofs.Ytciiinolpaohpaa
/- THE CELL 'sum', in the pinned program and in every row, IS THE sha256 OF THE DUMP (.gsa) THAT YtciiinolpaohpaaProg.lean LOADS. Nothing in Lean hashes anything: it is a label: what it is worth is what the hold of that sum in a sandbox is worth. -/
noncomputable def Try.pinned : Pinned := { name := "ytciiinolpaohpaa", sum := "e80417d1c25295a78bcf2e10a04f24a9c0474bf49875be414cd3563c84555b9b", checked := Try.checked }
namespace Rows
def none {H : Type} : Left H := { results := [], args := [] }

/-- 'laws.FnExactIsSolid': WHATEVER THE INPUT: true; the input reads as it did. -/
def fnExactIsSolidSpec : ChangeSpec := { name := "fnExactIsSolid", fn := fun _ => fun
  | [d] => { results := [.lit (.bool true)], args := [d] }
  | _ => none }
def fnExactIsSolidRow : OpenClaim := { program := "ytciiinolpaohpaa", sum := "e80417d1c25295a78bcf2e10a04f24a9c0474bf49875be414cd3563c84555b9b", func := "loop.example/g01073/laws.FnExactIsSolid", spec := "fnExactIsSolid", unfollowed := true, recurses := true, apart := false }
def FnExactIsSolidSaid : Prop := fnExactIsSolidRow.holds Try.pinned (OpenSpec.ofChange fnExactIsSolidSpec)

/-- ITS FALSE NEIGHBOUR: 'it returns false'. Refute it at one input. -/
def fnExactIsSolidWrong : ChangeSpec := { name := "fnExactIsSolid", fn := fun _ => fun
  | [d] => { results := [.lit (.bool false)], args := [d] }
  | _ => none }
def FnExactIsSolidWrongFalsely : Prop := fnExactIsSolidRow.holds Try.pinned (OpenSpec.ofChange fnExactIsSolidWrong)

/-- 'laws.FnExactIsTight': WHATEVER THE INPUT: true; the input reads as it did. -/
def fnExactIsTightSpec : ChangeSpec := { name := "fnExactIsTight", fn := fun _ => fun
  | [d] => { results := [.lit (.bool true)], args := [d] }
  | _ => none }
def fnExactIsTightRow : OpenClaim := { program := "ytciiinolpaohpaa", sum := "e80417d1c25295a78bcf2e10a04f24a9c0474bf49875be414cd3563c84555b9b", func := "loop.example/g01073/laws.FnExactIsTight", spec := "fnExactIsTight", unfollowed := true, recurses := true, apart := false }
def FnExactIsTightSaid : Prop := fnExactIsTightRow.holds Try.pinned (OpenSpec.ofChange fnExactIsTightSpec)

/-- ITS FALSE NEIGHBOUR: 'it returns false'. Refute it at one input. -/
def fnExactIsTightWrong : ChangeSpec := { name := "fnExactIsTight", fn := fun _ => fun
  | [d] => { results := [.lit (.bool false)], args := [d] }
  | _ => none }
def FnExactIsTightWrongFalsely : Prop := fnExactIsTightRow.holds Try.pinned (OpenSpec.ofChange fnExactIsTightWrong)

/-- 'laws.FnExactRuleChange': WHATEVER THE INPUT: true; the input reads as it did. -/
def fnExactRuleChangeSpec : ChangeSpec := { name := "fnExactRuleChange", fn := fun _ => fun
  | [d] => { results := [.lit (.bool true)], args := [d] }
  | _ => none }
def fnExactRuleChangeRow : OpenClaim := { program := "ytciiinolpaohpaa", sum := "e80417d1c25295a78bcf2e10a04f24a9c0474bf49875be414cd3563c84555b9b", func := "loop.example/g01073/laws.FnExactRuleChange", spec := "fnExactRuleChange", unfollowed := true, recurses := true, apart := false }
def FnExactRuleChangeSaid : Prop := fnExactRuleChangeRow.holds Try.pinned (OpenSpec.ofChange fnExactRuleChangeSpec)

/-- ITS FALSE NEIGHBOUR: 'it returns false'. Refute it at one input. -/
def fnExactRuleChangeWrong : ChangeSpec := { name := "fnExactRuleChange", fn := fun _ => fun
  | [d] => { results := [.lit (.bool false)], args := [d] }
  | _ => none }
def FnExactRuleChangeWrongFalsely : Prop := fnExactRuleChangeRow.holds Try.pinned (OpenSpec.ofChange fnExactRuleChangeWrong)

/- THE SECOND FORM. 'bulk': how many values and letters a reading holds, each counted each time it is reached (what is shared counts as often as it is met; a slice's spare places count too). A statement '..UptoSaid' is the law's where the arguments, and the package variables that the reading takes, are together of bulk at most 1048576: NARROWER than '..Said'. Prove '..Said' where nothing that the law and all that it calls make is longer than what came in: it says more and counts as full. Else prove '..UptoSaid'. A law counts once. -/
mutual
def uptoBulk {H : Type} : DataW H → Nat
  | .lit (.string bytes) => bytes.length + 1
  | .lit _ => 1
  | .nil => 1
  | .ptr d => uptoBulk d + 1
  | .slice elems spare => uptoBulkAll elems + uptoBulkAll spare + 1
  | .agg parts => uptoBulkAll parts + 1
  | .iface _ d => uptoBulk d + 1
  | .map entries => uptoBulkEntries entries + 1
  | .held _ => 1
def uptoBulkAll {H : Type} : List (DataW H) → Nat
  | [] => 0
  | d :: r => uptoBulk d + uptoBulkAll r
def uptoBulkEntries {H : Type} : List (Lit × DataW H) → Nat
  | [] => 0
  | x :: r => uptoBulkEntry x + uptoBulkEntries r
def uptoBulkEntry {H : Type} : Lit × DataW H → Nat
  | (.string bytes, d) => bytes.length + uptoBulk d + 1
  | (_, d) => uptoBulk d + 1
 end
def uptoSmall : (H : Type) → List (DataW H) → Bool := fun _ ds => decide (uptoBulkAll ds ≤ 1048576)
def OpenSpec.upto (s : _root_.Go.ChangeSpec) : _root_.Go.OpenSpec := { _root_.Go.OpenSpec.ofChange s with cond := some uptoSmall }

/-- 'laws.FnExactIsSolid', WHERE WHAT IT READS IS OF BULK AT MOST 1048576: true; the input reads as it did. -/
def fnExactIsSolidUptoRow : OpenClaim := { program := "ytciiinolpaohpaa", sum := "e80417d1c25295a78bcf2e10a04f24a9c0474bf49875be414cd3563c84555b9b", func := "loop.example/g01073/laws.FnExactIsSolid", spec := "fnExactIsSolid", unfollowed := true, recurses := true, apart := false, narrowed := true }
def FnExactIsSolidUptoSaid : Prop := fnExactIsSolidUptoRow.holds Try.pinned (OpenSpec.upto fnExactIsSolidSpec)

/-- 'laws.FnExactIsTight', WHERE WHAT IT READS IS OF BULK AT MOST 1048576: true; the input reads as it did. -/
def fnExactIsTightUptoRow : OpenClaim := { program := "ytciiinolpaohpaa", sum := "e80417d1c25295a78bcf2e10a04f24a9c0474bf49875be414cd3563c84555b9b", func := "loop.example/g01073/laws.FnExactIsTight", spec := "fnExactIsTight", unfollowed := true, recurses := true, apart := false, narrowed := true }
def FnExactIsTightUptoSaid : Prop := fnExactIsTightUptoRow.holds Try.pinned (OpenSpec.upto fnExactIsTightSpec)

/-- 'laws.FnExactRuleChange', WHERE WHAT IT READS IS OF BULK AT MOST 1048576: true; the input reads as it did. -/
def fnExactRuleChangeUptoRow : OpenClaim := { program := "ytciiinolpaohpaa", sum := "e80417d1c25295a78bcf2e10a04f24a9c0474bf49875be414cd3563c84555b9b", func := "loop.example/g01073/laws.FnExactRuleChange", spec := "fnExactRuleChange", unfollowed := true, recurses := true, apart := false, narrowed := true }
def FnExactRuleChangeUptoSaid : Prop := fnExactRuleChangeUptoRow.holds Try.pinned (OpenSpec.upto fnExactRuleChangeSpec)

end Rows
end Go.Proofs.Ytciiinolpaohpaa
