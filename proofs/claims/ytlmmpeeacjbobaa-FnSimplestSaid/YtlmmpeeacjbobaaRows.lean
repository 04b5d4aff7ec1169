/-
  No cell of these rows narrows 'for every input' (looked for: loops, veiled, ifaces, maps, wideKeys, modest, calm, conditions, laid).
  DERIVED. THE GIVEN ROWS OF THIS SEAT. 5 by the template 'for every input the law returns true; each argument reads behind the call as it read before'; 0 by the template 'total and deterministic' (their statements: YtlmmpeeacjbobaaTotals.lean).
  GIVEN WITH THE SEED: the statements are not yours to turn. If you find one false, say at which input.
  Laid BY PROGRAM, IN A SANDBOX (cutbox-rows.mjs): the forced cells as the released guide's own fill.sh prints them over the translation 8727c348e8693c99… (all of the seat's roots in one cut). By AI agents, Wed Nov 11 2026. No macro, syntax, notation, axiom, sorry.
-/
import Derived.Test.YtlmmpeeacjbobaaChecked
import GoSem.Claim
import GoSem.ClaimJoined
import GoSem.ClaimMapViews
import Derived.JoinedTies
import Derived.KernelRfl
namespace Go.Proofs.Ytlmmpeeacjbobaa
/- THE CELL 'sum', in the pinned program and in every row, IS THE sha256 OF THE DUMP (.gsa) THAT YtlmmpeeacjbobaaProg.lean LOADS. Nothing in Lean hashes anything: it is a label: what it is worth is what the hold of that sum in a sandbox is worth. -/
noncomputable def Try.pinned : Pinned := { name := "ytlmmpeeacjbobaa", sum := "8727c348e8693c9970ed2201cc8191af54a184fe5203523afe5681081a9b50e8", checked := Try.checked }
namespace Rows
def none {H : Type} : Left H := { results := [], args := [] }

/-- 'laws.FnExactParentFraction': WHATEVER THE INPUT: true; the input reads as it did. -/
def fnExactParentFractionSpec : ChangeSpec := { name := "fnExactParentFraction", fn := fun _ => fun
  | [d] => { results := [.lit (.bool true)], args := [d] }
  | _ => none }
def fnExactParentFractionRow : OpenClaim := { program := "ytlmmpeeacjbobaa", sum := "8727c348e8693c9970ed2201cc8191af54a184fe5203523afe5681081a9b50e8", func := "loop.example/g01007/laws.FnExactParentFraction", spec := "fnExactParentFraction", apart := false }
def FnExactParentFractionSaid : Prop := fnExactParentFractionRow.holds Try.pinned (OpenSpec.ofChange fnExactParentFractionSpec)

/-- ITS FALSE NEIGHBOUR: 'it returns false'. Refute it at one input. -/
def fnExactParentFractionWrong : ChangeSpec := { name := "fnExactParentFraction", fn := fun _ => fun
  | [d] => { results := [.lit (.bool false)], args := [d] }
  | _ => none }
def FnExactParentFractionWrongFalsely : Prop := fnExactParentFractionRow.holds Try.pinned (OpenSpec.ofChange fnExactParentFractionWrong)

/-- 'laws.FnExactCommonAncestor': WHATEVER THE INPUT: true; the input reads as it did. -/
def fnExactCommonAncestorSpec : ChangeSpec := { name := "fnExactCommonAncestor", fn := fun _ => fun
  | [d1, d2] => { results := [.lit (.bool true)], args := [d1, d2] }
  | _ => none }
def fnExactCommonAncestorRow : OpenClaim := { program := "ytlmmpeeacjbobaa", sum := "8727c348e8693c9970ed2201cc8191af54a184fe5203523afe5681081a9b50e8", func := "loop.example/g01007/laws.FnExactCommonAncestor", spec := "fnExactCommonAncestor", apart := false }
def FnExactCommonAncestorSaid : Prop := fnExactCommonAncestorRow.holds Try.pinned (OpenSpec.ofChange fnExactCommonAncestorSpec)

/-- ITS FALSE NEIGHBOUR: 'it returns false'. Refute it at one input. -/
def fnExactCommonAncestorWrong : ChangeSpec := { name := "fnExactCommonAncestor", fn := fun _ => fun
  | [d1, d2] => { results := [.lit (.bool false)], args := [d1, d2] }
  | _ => none }
def FnExactCommonAncestorWrongFalsely : Prop := fnExactCommonAncestorRow.holds Try.pinned (OpenSpec.ofChange fnExactCommonAncestorWrong)

/-- 'laws.FnTree': WHATEVER THE INPUT: true; the input reads as it did. -/
def fnTreeSpec : ChangeSpec := { name := "fnTree", fn := fun _ => fun
  | [d] => { results := [.lit (.bool true)], args := [d] }
  | _ => none }
def fnTreeRow : OpenClaim := { program := "ytlmmpeeacjbobaa", sum := "8727c348e8693c9970ed2201cc8191af54a184fe5203523afe5681081a9b50e8", func := "loop.example/g01007/laws.FnTree", spec := "fnTree", apart := false }
def FnTreeSaid : Prop := fnTreeRow.holds Try.pinned (OpenSpec.ofChange fnTreeSpec)

/-- ITS FALSE NEIGHBOUR: 'it returns false'. Refute it at one input. -/
def fnTreeWrong : ChangeSpec := { name := "fnTree", fn := fun _ => fun
  | [d] => { results := [.lit (.bool false)], args := [d] }
  | _ => none }
def FnTreeWrongFalsely : Prop := fnTreeRow.holds Try.pinned (OpenSpec.ofChange fnTreeWrong)

/-- 'laws.FnSimplest': WHATEVER THE INPUT: true; the input reads as it did. -/
def fnSimplestSpec : ChangeSpec := { name := "fnSimplest", fn := fun _ => fun
  | [d] => { results := [.lit (.bool true)], args := [d] }
  | _ => none }
def fnSimplestRow : OpenClaim := { program := "ytlmmpeeacjbobaa", sum := "8727c348e8693c9970ed2201cc8191af54a184fe5203523afe5681081a9b50e8", func := "loop.example/g01007/laws.FnSimplest", spec := "fnSimplest", recurses := true, apart := false }
def FnSimplestSaid : Prop := fnSimplestRow.holds Try.pinned (OpenSpec.ofChange fnSimplestSpec)

/-- ITS FALSE NEIGHBOUR: 'it returns false'. Refute it at one input. -/
def fnSimplestWrong : ChangeSpec := { name := "fnSimplest", fn := fun _ => fun
  | [d] => { results := [.lit (.bool false)], args := [d] }
  | _ => none }
def FnSimplestWrongFalsely : Prop := fnSimplestRow.holds Try.pinned (OpenSpec.ofChange fnSimplestWrong)

/-- 'laws.FnNextFarey': WHATEVER THE INPUT: true; the input reads as it did. -/
def fnNextFareySpec : ChangeSpec := { name := "fnNextFarey", fn := fun _ => fun
  | [d] => { results := [.lit (.bool true)], args := [d] }
  | _ => none }
def fnNextFareyRow : OpenClaim := { program := "ytlmmpeeacjbobaa", sum := "8727c348e8693c9970ed2201cc8191af54a184fe5203523afe5681081a9b50e8", func := "loop.example/g01007/laws.FnNextFarey", spec := "fnNextFarey", apart := false }
def FnNextFareySaid : Prop := fnNextFareyRow.holds Try.pinned (OpenSpec.ofChange fnNextFareySpec)

/-- ITS FALSE NEIGHBOUR: 'it returns false'. Refute it at one input. -/
def fnNextFareyWrong : ChangeSpec := { name := "fnNextFarey", fn := fun _ => fun
  | [d] => { results := [.lit (.bool false)], args := [d] }
  | _ => none }
def FnNextFareyWrongFalsely : Prop := fnNextFareyRow.holds Try.pinned (OpenSpec.ofChange fnNextFareyWrong)

/- THE SECOND FORM. 'bulk': how many values and letters a reading holds, each counted each time it is reached (what is shared counts as often as it is met; a slice's spare places count too). A statement '..UptoSaid' is the law's where the arguments, and the package variables that the reading takes, are together of bulk at most 1048576: NARROWER than '..Said'. Prove '..Said' where nothing that the law and all that it calls make is longer than what came in: it says more and counts as full. Else prove '..UptoSaid'. A law counts once. -/
mutual
def uptoBulk {H : Type} : DataW H → Nat
  | .lit (.string bytes) => bytes.length + 1
  | .lit _ => 1
  | .nil => 1
  | .ptr d => uptoBulk d + 1
  | .slice elems spare => uptoBulkAll elems + uptoBulkAll spare + 1
  | .agg parts => uptoBulkAll parts + 1
  | .iface _ d => uptoBulk d + 1
  | .map entries => uptoBulkEntries entries + 1
  | .held _ => 1
def uptoBulkAll {H : Type} : List (DataW H) → Nat
  | [] => 0
  | d :: r => uptoBulk d + uptoBulkAll r
def uptoBulkEntries {H : Type} : List (Lit × DataW H) → Nat
  | [] => 0
  | x :: r => uptoBulkEntry x + uptoBulkEntries r
def uptoBulkEntry {H : Type} : Lit × DataW H → Nat
  | (.string bytes, d) => bytes.length + uptoBulk d + 1
  | (_, d) => uptoBulk d + 1
 end
def uptoSmall : (H : Type) → List (DataW H) → Bool := fun _ ds => decide (uptoBulkAll ds ≤ 1048576)
def OpenSpec.upto (s : _root_.Go.ChangeSpec) : _root_.Go.OpenSpec := { _root_.Go.OpenSpec.ofChange s with cond := some uptoSmall }

/-- 'laws.FnExactParentFraction', WHERE WHAT IT READS IS OF BULK AT MOST 1048576: true; the input reads as it did. -/
def fnExactParentFractionUptoRow : OpenClaim := { program := "ytlmmpeeacjbobaa", sum := "8727c348e8693c9970ed2201cc8191af54a184fe5203523afe5681081a9b50e8", func := "loop.example/g01007/laws.FnExactParentFraction", spec := "fnExactParentFraction", apart := false, narrowed := true }
def FnExactParentFractionUptoSaid : Prop := fnExactParentFractionUptoRow.holds Try.pinned (OpenSpec.upto fnExactParentFractionSpec)

/-- 'laws.FnExactCommonAncestor', WHERE WHAT IT READS IS OF BULK AT MOST 1048576: true; the input reads as it did. -/
def fnExactCommonAncestorUptoRow : OpenClaim := { program := "ytlmmpeeacjbobaa", sum := "8727c348e8693c9970ed2201cc8191af54a184fe5203523afe5681081a9b50e8", func := "loop.example/g01007/laws.FnExactCommonAncestor", spec := "fnExactCommonAncestor", apart := false, narrowed := true }
def FnExactCommonAncestorUptoSaid : Prop := fnExactCommonAncestorUptoRow.holds Try.pinned (OpenSpec.upto fnExactCommonAncestorSpec)

/-- 'laws.FnTree', WHERE WHAT IT READS IS OF BULK AT MOST 1048576: true; the input reads as it did. -/
def fnTreeUptoRow : OpenClaim := { program := "ytlmmpeeacjbobaa", sum := "8727c348e8693c9970ed2201cc8191af54a184fe5203523afe5681081a9b50e8", func := "loop.example/g01007/laws.FnTree", spec := "fnTree", apart := false, narrowed := true }
def FnTreeUptoSaid : Prop := fnTreeUptoRow.holds Try.pinned (OpenSpec.upto fnTreeSpec)

/-- 'laws.FnSimplest', WHERE WHAT IT READS IS OF BULK AT MOST 1048576: true; the input reads as it did. -/
def fnSimplestUptoRow : OpenClaim := { program := "ytlmmpeeacjbobaa", sum := "8727c348e8693c9970ed2201cc8191af54a184fe5203523afe5681081a9b50e8", func := "loop.example/g01007/laws.FnSimplest", spec := "fnSimplest", recurses := true, apart := false, narrowed := true }
def FnSimplestUptoSaid : Prop := fnSimplestUptoRow.holds Try.pinned (OpenSpec.upto fnSimplestSpec)

/-- 'laws.FnNextFarey', WHERE WHAT IT READS IS OF BULK AT MOST 1048576: true; the input reads as it did. -/
def fnNextFareyUptoRow : OpenClaim := { program := "ytlmmpeeacjbobaa", sum := "8727c348e8693c9970ed2201cc8191af54a184fe5203523afe5681081a9b50e8", func := "loop.example/g01007/laws.FnNextFarey", spec := "fnNextFarey", apart := false, narrowed := true }
def FnNextFareyUptoSaid : Prop := fnNextFareyUptoRow.holds Try.pinned (OpenSpec.upto fnNextFareySpec)

end Rows
end Go.Proofs.Ytlmmpeeacjbobaa
