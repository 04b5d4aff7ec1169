/-
  No cell of these rows narrows 'for every input' (looked for: loops, veiled, ifaces, maps, wideKeys, modest, calm, conditions, laid).
  DERIVED. THE GIVEN ROWS OF THIS SEAT. 12 by the template 'for every input the law returns true; each argument reads behind the call as it read before'; 0 by the template 'total and deterministic' (their statements: YtjcjcligeiddlaaTotals.lean).
  GIVEN WITH THE SEED: the statements are not yours to turn. If you find one false, say at which input.
  Laid BY PROGRAM, IN A SANDBOX (cutbox-rows.mjs): the forced cells as the released guide's own fill.sh prints them over the translation 738336b3525af960… (all of the seat's roots in one cut). By AI agents, Wed Nov 11 2026. No macro, syntax, notation, axiom, sorry.
-/
import Derived.Test.YtjcjcligeiddlaaChecked
import GoSem.Claim
import GoSem.ClaimJoined
import GoSem.ClaimMapViews
import Derived.JoinedTies
import Derived.KernelRfl
namespace Go.Proofs.Ytjcjcligeiddlaa
/- THE CELL 'sum', in the pinned program and in every row, IS THE sha256 OF THE DUMP (.gsa) THAT YtjcjcligeiddlaaProg.lean LOADS. Nothing in Lean hashes anything: it is a label: what it is worth is what the hold of that sum in a sandbox is worth. -/
noncomputable def Try.pinned : Pinned := { name := "ytjcjcligeiddlaa", sum := "738336b3525af960dec45f2d9a99e4cd57141c21a675597cc1ec1259462d7721", checked := Try.checked }
namespace Rows
def none {H : Type} : Left H := { results := [], args := [] }

/-- 'laws.FnExactIsPalindrome': WHATEVER THE INPUT: true; the input reads as it did. -/
def fnExactIsPalindromeSpec : ChangeSpec := { name := "fnExactIsPalindrome", fn := fun _ => fun
  | [d] => { results := [.lit (.bool true)], args := [d] }
  | _ => none }
def fnExactIsPalindromeRow : OpenClaim := { program := "ytjcjcligeiddlaa", sum := "738336b3525af960dec45f2d9a99e4cd57141c21a675597cc1ec1259462d7721", func := "loop.example/g01007/laws.FnExactIsPalindrome", spec := "fnExactIsPalindrome", apart := false }
def FnExactIsPalindromeSaid : Prop := fnExactIsPalindromeRow.holds Try.pinned (OpenSpec.ofChange fnExactIsPalindromeSpec)

/-- ITS FALSE NEIGHBOUR: 'it returns false'. Refute it at one input. -/
def fnExactIsPalindromeWrong : ChangeSpec := { name := "fnExactIsPalindrome", fn := fun _ => fun
  | [d] => { results := [.lit (.bool false)], args := [d] }
  | _ => none }
def FnExactIsPalindromeWrongFalsely : Prop := fnExactIsPalindromeRow.holds Try.pinned (OpenSpec.ofChange fnExactIsPalindromeWrong)

/-- 'laws.FnExactTotientOf': WHATEVER THE INPUT: true; the input reads as it did. -/
def fnExactTotientOfSpec : ChangeSpec := { name := "fnExactTotientOf", fn := fun _ => fun
  | [d] => { results := [.lit (.bool true)], args := [d] }
  | _ => none }
def fnExactTotientOfRow : OpenClaim := { program := "ytjcjcligeiddlaa", sum := "738336b3525af960dec45f2d9a99e4cd57141c21a675597cc1ec1259462d7721", func := "loop.example/g01007/laws.FnExactTotientOf", spec := "fnExactTotientOf", apart := false }
def FnExactTotientOfSaid : Prop := fnExactTotientOfRow.holds Try.pinned (OpenSpec.ofChange fnExactTotientOfSpec)

/-- ITS FALSE NEIGHBOUR: 'it returns false'. Refute it at one input. -/
def fnExactTotientOfWrong : ChangeSpec := { name := "fnExactTotientOf", fn := fun _ => fun
  | [d] => { results := [.lit (.bool false)], args := [d] }
  | _ => none }
def FnExactTotientOfWrongFalsely : Prop := fnExactTotientOfRow.holds Try.pinned (OpenSpec.ofChange fnExactTotientOfWrong)

/-- 'laws.FnExactFareyCount': WHATEVER THE INPUT: true; the input reads as it did. -/
def fnExactFareyCountSpec : ChangeSpec := { name := "fnExactFareyCount", fn := fun _ => fun
  | [d] => { results := [.lit (.bool true)], args := [d] }
  | _ => none }
def fnExactFareyCountRow : OpenClaim := { program := "ytjcjcligeiddlaa", sum := "738336b3525af960dec45f2d9a99e4cd57141c21a675597cc1ec1259462d7721", func := "loop.example/g01007/laws.FnExactFareyCount", spec := "fnExactFareyCount", apart := false }
def FnExactFareyCountSaid : Prop := fnExactFareyCountRow.holds Try.pinned (OpenSpec.ofChange fnExactFareyCountSpec)

/-- ITS FALSE NEIGHBOUR: 'it returns false'. Refute it at one input. -/
def fnExactFareyCountWrong : ChangeSpec := { name := "fnExactFareyCount", fn := fun _ => fun
  | [d] => { results := [.lit (.bool false)], args := [d] }
  | _ => none }
def FnExactFareyCountWrongFalsely : Prop := fnExactFareyCountRow.holds Try.pinned (OpenSpec.ofChange fnExactFareyCountWrong)

/-- 'laws.FnExactFareyAt': WHATEVER THE INPUT: true; the input reads as it did. -/
def fnExactFareyAtSpec : ChangeSpec := { name := "fnExactFareyAt", fn := fun _ => fun
  | [d1, d2] => { results := [.lit (.bool true)], args := [d1, d2] }
  | _ => none }
def fnExactFareyAtRow : OpenClaim := { program := "ytjcjcligeiddlaa", sum := "738336b3525af960dec45f2d9a99e4cd57141c21a675597cc1ec1259462d7721", func := "loop.example/g01007/laws.FnExactFareyAt", spec := "fnExactFareyAt", apart := false }
def FnExactFareyAtSaid : Prop := fnExactFareyAtRow.holds Try.pinned (OpenSpec.ofChange fnExactFareyAtSpec)

/-- ITS FALSE NEIGHBOUR: 'it returns false'. Refute it at one input. -/
def fnExactFareyAtWrong : ChangeSpec := { name := "fnExactFareyAt", fn := fun _ => fun
  | [d1, d2] => { results := [.lit (.bool false)], args := [d1, d2] }
  | _ => none }
def FnExactFareyAtWrongFalsely : Prop := fnExactFareyAtRow.holds Try.pinned (OpenSpec.ofChange fnExactFareyAtWrong)

/-- 'laws.FnExactCirclesTouch': WHATEVER THE INPUT: true; the input reads as it did. -/
def fnExactCirclesTouchSpec : ChangeSpec := { name := "fnExactCirclesTouch", fn := fun _ => fun
  | [d1, d2] => { results := [.lit (.bool true)], args := [d1, d2] }
  | _ => none }
def fnExactCirclesTouchRow : OpenClaim := { program := "ytjcjcligeiddlaa", sum := "738336b3525af960dec45f2d9a99e4cd57141c21a675597cc1ec1259462d7721", func := "loop.example/g01007/laws.FnExactCirclesTouch", spec := "fnExactCirclesTouch", apart := false }
def FnExactCirclesTouchSaid : Prop := fnExactCirclesTouchRow.holds Try.pinned (OpenSpec.ofChange fnExactCirclesTouchSpec)

/-- ITS FALSE NEIGHBOUR: 'it returns false'. Refute it at one input. -/
def fnExactCirclesTouchWrong : ChangeSpec := { name := "fnExactCirclesTouch", fn := fun _ => fun
  | [d1, d2] => { results := [.lit (.bool false)], args := [d1, d2] }
  | _ => none }
def FnExactCirclesTouchWrongFalsely : Prop := fnExactCirclesTouchRow.holds Try.pinned (OpenSpec.ofChange fnExactCirclesTouchWrong)

/-- 'laws.FnExactCircleOf': WHATEVER THE INPUT: true; the input reads as it did. -/
def fnExactCircleOfSpec : ChangeSpec := { name := "fnExactCircleOf", fn := fun _ => fun
  | [d] => { results := [.lit (.bool true)], args := [d] }
  | _ => none }
def fnExactCircleOfRow : OpenClaim := { program := "ytjcjcligeiddlaa", sum := "738336b3525af960dec45f2d9a99e4cd57141c21a675597cc1ec1259462d7721", func := "loop.example/g01007/laws.FnExactCircleOf", spec := "fnExactCircleOf", apart := false }
def FnExactCircleOfSaid : Prop := fnExactCircleOfRow.holds Try.pinned (OpenSpec.ofChange fnExactCircleOfSpec)

/-- ITS FALSE NEIGHBOUR: 'it returns false'. Refute it at one input. -/
def fnExactCircleOfWrong : ChangeSpec := { name := "fnExactCircleOf", fn := fun _ => fun
  | [d] => { results := [.lit (.bool false)], args := [d] }
  | _ => none }
def FnExactCircleOfWrongFalsely : Prop := fnExactCircleOfRow.holds Try.pinned (OpenSpec.ofChange fnExactCircleOfWrong)

/-- 'laws.FnExactFareySequence': WHATEVER THE INPUT: true; the input reads as it did. -/
def fnExactFareySequenceSpec : ChangeSpec := { name := "fnExactFareySequence", fn := fun _ => fun
  | [d] => { results := [.lit (.bool true)], args := [d] }
  | _ => none }
def fnExactFareySequenceRow : OpenClaim := { program := "ytjcjcligeiddlaa", sum := "738336b3525af960dec45f2d9a99e4cd57141c21a675597cc1ec1259462d7721", func := "loop.example/g01007/laws.FnExactFareySequence", spec := "fnExactFareySequence", apart := false }
def FnExactFareySequenceSaid : Prop := fnExactFareySequenceRow.holds Try.pinned (OpenSpec.ofChange fnExactFareySequenceSpec)

/-- ITS FALSE NEIGHBOUR: 'it returns false'. Refute it at one input. -/
def fnExactFareySequenceWrong : ChangeSpec := { name := "fnExactFareySequence", fn := fun _ => fun
  | [d] => { results := [.lit (.bool false)], args := [d] }
  | _ => none }
def FnExactFareySequenceWrongFalsely : Prop := fnExactFareySequenceRow.holds Try.pinned (OpenSpec.ofChange fnExactFareySequenceWrong)

/-- 'laws.FnExactFareyRank': WHATEVER THE INPUT: true; the input reads as it did. -/
def fnExactFareyRankSpec : ChangeSpec := { name := "fnExactFareyRank", fn := fun _ => fun
  | [d1, d2] => { results := [.lit (.bool true)], args := [d1, d2] }
  | _ => none }
def fnExactFareyRankRow : OpenClaim := { program := "ytjcjcligeiddlaa", sum := "738336b3525af960dec45f2d9a99e4cd57141c21a675597cc1ec1259462d7721", func := "loop.example/g01007/laws.FnExactFareyRank", spec := "fnExactFareyRank", apart := false }
def FnExactFareyRankSaid : Prop := fnExactFareyRankRow.holds Try.pinned (OpenSpec.ofChange fnExactFareyRankSpec)

/-- ITS FALSE NEIGHBOUR: 'it returns false'. Refute it at one input. -/
def fnExactFareyRankWrong : ChangeSpec := { name := "fnExactFareyRank", fn := fun _ => fun
  | [d1, d2] => { results := [.lit (.bool false)], args := [d1, d2] }
  | _ => none }
def FnExactFareyRankWrongFalsely : Prop := fnExactFareyRankRow.holds Try.pinned (OpenSpec.ofChange fnExactFareyRankWrong)

/-- 'laws.FnExactNextFarey': WHATEVER THE INPUT: true; the input reads as it did. -/
def fnExactNextFareySpec : ChangeSpec := { name := "fnExactNextFarey", fn := fun _ => fun
  | [d1, d2] => { results := [.lit (.bool true)], args := [d1, d2] }
  | _ => none }
def fnExactNextFareyRow : OpenClaim := { program := "ytjcjcligeiddlaa", sum := "738336b3525af960dec45f2d9a99e4cd57141c21a675597cc1ec1259462d7721", func := "loop.example/g01007/laws.FnExactNextFarey", spec := "fnExactNextFarey", apart := false }
def FnExactNextFareySaid : Prop := fnExactNextFareyRow.holds Try.pinned (OpenSpec.ofChange fnExactNextFareySpec)

/-- ITS FALSE NEIGHBOUR: 'it returns false'. Refute it at one input. -/
def fnExactNextFareyWrong : ChangeSpec := { name := "fnExactNextFarey", fn := fun _ => fun
  | [d1, d2] => { results := [.lit (.bool false)], args := [d1, d2] }
  | _ => none }
def FnExactNextFareyWrongFalsely : Prop := fnExactNextFareyRow.holds Try.pinned (OpenSpec.ofChange fnExactNextFareyWrong)

/-- 'laws.FnExactBeforeFarey': WHATEVER THE INPUT: true; the input reads as it did. -/
def fnExactBeforeFareySpec : ChangeSpec := { name := "fnExactBeforeFarey", fn := fun _ => fun
  | [d1, d2] => { results := [.lit (.bool true)], args := [d1, d2] }
  | _ => none }
def fnExactBeforeFareyRow : OpenClaim := { program := "ytjcjcligeiddlaa", sum := "738336b3525af960dec45f2d9a99e4cd57141c21a675597cc1ec1259462d7721", func := "loop.example/g01007/laws.FnExactBeforeFarey", spec := "fnExactBeforeFarey", apart := false }
def FnExactBeforeFareySaid : Prop := fnExactBeforeFareyRow.holds Try.pinned (OpenSpec.ofChange fnExactBeforeFareySpec)

/-- ITS FALSE NEIGHBOUR: 'it returns false'. Refute it at one input. -/
def fnExactBeforeFareyWrong : ChangeSpec := { name := "fnExactBeforeFarey", fn := fun _ => fun
  | [d1, d2] => { results := [.lit (.bool false)], args := [d1, d2] }
  | _ => none }
def FnExactBeforeFareyWrongFalsely : Prop := fnExactBeforeFareyRow.holds Try.pinned (OpenSpec.ofChange fnExactBeforeFareyWrong)

/-- 'laws.FnExactTouchingCircles': WHATEVER THE INPUT: true; the input reads as it did. -/
def fnExactTouchingCirclesSpec : ChangeSpec := { name := "fnExactTouchingCircles", fn := fun _ => fun
  | [d1, d2] => { results := [.lit (.bool true)], args := [d1, d2] }
  | _ => none }
def fnExactTouchingCirclesRow : OpenClaim := { program := "ytjcjcligeiddlaa", sum := "738336b3525af960dec45f2d9a99e4cd57141c21a675597cc1ec1259462d7721", func := "loop.example/g01007/laws.FnExactTouchingCircles", spec := "fnExactTouchingCircles", apart := false }
def FnExactTouchingCirclesSaid : Prop := fnExactTouchingCirclesRow.holds Try.pinned (OpenSpec.ofChange fnExactTouchingCirclesSpec)

/-- ITS FALSE NEIGHBOUR: 'it returns false'. Refute it at one input. -/
def fnExactTouchingCirclesWrong : ChangeSpec := { name := "fnExactTouchingCircles", fn := fun _ => fun
  | [d1, d2] => { results := [.lit (.bool false)], args := [d1, d2] }
  | _ => none }
def FnExactTouchingCirclesWrongFalsely : Prop := fnExactTouchingCirclesRow.holds Try.pinned (OpenSpec.ofChange fnExactTouchingCirclesWrong)

/-- 'laws.FnExactParentFraction': WHATEVER THE INPUT: true; the input reads as it did. -/
def fnExactParentFractionSpec : ChangeSpec := { name := "fnExactParentFraction", fn := fun _ => fun
  | [d] => { results := [.lit (.bool true)], args := [d] }
  | _ => none }
def fnExactParentFractionRow : OpenClaim := { program := "ytjcjcligeiddlaa", sum := "738336b3525af960dec45f2d9a99e4cd57141c21a675597cc1ec1259462d7721", func := "loop.example/g01007/laws.FnExactParentFraction", spec := "fnExactParentFraction", apart := false }
def FnExactParentFractionSaid : Prop := fnExactParentFractionRow.holds Try.pinned (OpenSpec.ofChange fnExactParentFractionSpec)

/-- ITS FALSE NEIGHBOUR: 'it returns false'. Refute it at one input. -/
def fnExactParentFractionWrong : ChangeSpec := { name := "fnExactParentFraction", fn := fun _ => fun
  | [d] => { results := [.lit (.bool false)], args := [d] }
  | _ => none }
def FnExactParentFractionWrongFalsely : Prop := fnExactParentFractionRow.holds Try.pinned (OpenSpec.ofChange fnExactParentFractionWrong)

/- THE SECOND FORM. 'bulk': how many values and letters a reading holds, each counted each time it is reached (what is shared counts as often as it is met; a slice's spare places count too). A statement '..UptoSaid' is the law's where the arguments, and the package variables that the reading takes, are together of bulk at most 1048576: NARROWER than '..Said'. Prove '..Said' where nothing that the law and all that it calls make is longer than what came in: it says more and counts as full. Else prove '..UptoSaid'. A law counts once. -/
mutual
def uptoBulk {H : Type} : DataW H → Nat
  | .lit (.string bytes) => bytes.length + 1
  | .lit _ => 1
  | .nil => 1
  | .ptr d => uptoBulk d + 1
  | .slice elems spare => uptoBulkAll elems + uptoBulkAll spare + 1
  | .agg parts => uptoBulkAll parts + 1
  | .iface _ d => uptoBulk d + 1
  | .map entries => uptoBulkEntries entries + 1
  | .held _ => 1
def uptoBulkAll {H : Type} : List (DataW H) → Nat
  | [] => 0
  | d :: r => uptoBulk d + uptoBulkAll r
def uptoBulkEntries {H : Type} : List (Lit × DataW H) → Nat
  | [] => 0
  | x :: r => uptoBulkEntry x + uptoBulkEntries r
def uptoBulkEntry {H : Type} : Lit × DataW H → Nat
  | (.string bytes, d) => bytes.length + uptoBulk d + 1
  | (_, d) => uptoBulk d + 1
 end
def uptoSmall : (H : Type) → List (DataW H) → Bool := fun _ ds => decide (uptoBulkAll ds ≤ 1048576)
def OpenSpec.upto (s : _root_.Go.ChangeSpec) : _root_.Go.OpenSpec := { _root_.Go.OpenSpec.ofChange s with cond := some uptoSmall }

/-- 'laws.FnExactIsPalindrome', WHERE WHAT IT READS IS OF BULK AT MOST 1048576: true; the input reads as it did. -/
def fnExactIsPalindromeUptoRow : OpenClaim := { program := "ytjcjcligeiddlaa", sum := "738336b3525af960dec45f2d9a99e4cd57141c21a675597cc1ec1259462d7721", func := "loop.example/g01007/laws.FnExactIsPalindrome", spec := "fnExactIsPalindrome", apart := false, narrowed := true }
def FnExactIsPalindromeUptoSaid : Prop := fnExactIsPalindromeUptoRow.holds Try.pinned (OpenSpec.upto fnExactIsPalindromeSpec)

/-- 'laws.FnExactTotientOf', WHERE WHAT IT READS IS OF BULK AT MOST 1048576: true; the input reads as it did. -/
def fnExactTotientOfUptoRow : OpenClaim := { program := "ytjcjcligeiddlaa", sum := "738336b3525af960dec45f2d9a99e4cd57141c21a675597cc1ec1259462d7721", func := "loop.example/g01007/laws.FnExactTotientOf", spec := "fnExactTotientOf", apart := false, narrowed := true }
def FnExactTotientOfUptoSaid : Prop := fnExactTotientOfUptoRow.holds Try.pinned (OpenSpec.upto fnExactTotientOfSpec)

/-- 'laws.FnExactFareyCount', WHERE WHAT IT READS IS OF BULK AT MOST 1048576: true; the input reads as it did. -/
def fnExactFareyCountUptoRow : OpenClaim := { program := "ytjcjcligeiddlaa", sum := "738336b3525af960dec45f2d9a99e4cd57141c21a675597cc1ec1259462d7721", func := "loop.example/g01007/laws.FnExactFareyCount", spec := "fnExactFareyCount", apart := false, narrowed := true }
def FnExactFareyCountUptoSaid : Prop := fnExactFareyCountUptoRow.holds Try.pinned (OpenSpec.upto fnExactFareyCountSpec)

/-- 'laws.FnExactFareyAt', WHERE WHAT IT READS IS OF BULK AT MOST 1048576: true; the input reads as it did. -/
def fnExactFareyAtUptoRow : OpenClaim := { program := "ytjcjcligeiddlaa", sum := "738336b3525af960dec45f2d9a99e4cd57141c21a675597cc1ec1259462d7721", func := "loop.example/g01007/laws.FnExactFareyAt", spec := "fnExactFareyAt", apart := false, narrowed := true }
def FnExactFareyAtUptoSaid : Prop := fnExactFareyAtUptoRow.holds Try.pinned (OpenSpec.upto fnExactFareyAtSpec)

/-- 'laws.FnExactCirclesTouch', WHERE WHAT IT READS IS OF BULK AT MOST 1048576: true; the input reads as it did. -/
def fnExactCirclesTouchUptoRow : OpenClaim := { program := "ytjcjcligeiddlaa", sum := "738336b3525af960dec45f2d9a99e4cd57141c21a675597cc1ec1259462d7721", func := "loop.example/g01007/laws.FnExactCirclesTouch", spec := "fnExactCirclesTouch", apart := false, narrowed := true }
def FnExactCirclesTouchUptoSaid : Prop := fnExactCirclesTouchUptoRow.holds Try.pinned (OpenSpec.upto fnExactCirclesTouchSpec)

/-- 'laws.FnExactCircleOf', WHERE WHAT IT READS IS OF BULK AT MOST 1048576: true; the input reads as it did. -/
def fnExactCircleOfUptoRow : OpenClaim := { program := "ytjcjcligeiddlaa", sum := "738336b3525af960dec45f2d9a99e4cd57141c21a675597cc1ec1259462d7721", func := "loop.example/g01007/laws.FnExactCircleOf", spec := "fnExactCircleOf", apart := false, narrowed := true }
def FnExactCircleOfUptoSaid : Prop := fnExactCircleOfUptoRow.holds Try.pinned (OpenSpec.upto fnExactCircleOfSpec)

/-- 'laws.FnExactFareySequence', WHERE WHAT IT READS IS OF BULK AT MOST 1048576: true; the input reads as it did. -/
def fnExactFareySequenceUptoRow : OpenClaim := { program := "ytjcjcligeiddlaa", sum := "738336b3525af960dec45f2d9a99e4cd57141c21a675597cc1ec1259462d7721", func := "loop.example/g01007/laws.FnExactFareySequence", spec := "fnExactFareySequence", apart := false, narrowed := true }
def FnExactFareySequenceUptoSaid : Prop := fnExactFareySequenceUptoRow.holds Try.pinned (OpenSpec.upto fnExactFareySequenceSpec)

/-- 'laws.FnExactFareyRank', WHERE WHAT IT READS IS OF BULK AT MOST 1048576: true; the input reads as it did. -/
def fnExactFareyRankUptoRow : OpenClaim := { program := "ytjcjcligeiddlaa", sum := "738336b3525af960dec45f2d9a99e4cd57141c21a675597cc1ec1259462d7721", func := "loop.example/g01007/laws.FnExactFareyRank", spec := "fnExactFareyRank", apart := false, narrowed := true }
def FnExactFareyRankUptoSaid : Prop := fnExactFareyRankUptoRow.holds Try.pinned (OpenSpec.upto fnExactFareyRankSpec)

/-- 'laws.FnExactNextFarey', WHERE WHAT IT READS IS OF BULK AT MOST 1048576: true; the input reads as it did. -/
def fnExactNextFareyUptoRow : OpenClaim := { program := "ytjcjcligeiddlaa", sum := "738336b3525af960dec45f2d9a99e4cd57141c21a675597cc1ec1259462d7721", func := "loop.example/g01007/laws.FnExactNextFarey", spec := "fnExactNextFarey", apart := false, narrowed := true }
def FnExactNextFareyUptoSaid : Prop := fnExactNextFareyUptoRow.holds Try.pinned (OpenSpec.upto fnExactNextFareySpec)

/-- 'laws.FnExactBeforeFarey', WHERE WHAT IT READS IS OF BULK AT MOST 1048576: true; the input reads as it did. -/
def fnExactBeforeFareyUptoRow : OpenClaim := { program := "ytjcjcligeiddlaa", sum := "738336b3525af960dec45f2d9a99e4cd57141c21a675597cc1ec1259462d7721", func := "loop.example/g01007/laws.FnExactBeforeFarey", spec := "fnExactBeforeFarey", apart := false, narrowed := true }
def FnExactBeforeFareyUptoSaid : Prop := fnExactBeforeFareyUptoRow.holds Try.pinned (OpenSpec.upto fnExactBeforeFareySpec)

/-- 'laws.FnExactTouchingCircles', WHERE WHAT IT READS IS OF BULK AT MOST 1048576: true; the input reads as it did. -/
def fnExactTouchingCirclesUptoRow : OpenClaim := { program := "ytjcjcligeiddlaa", sum := "738336b3525af960dec45f2d9a99e4cd57141c21a675597cc1ec1259462d7721", func := "loop.example/g01007/laws.FnExactTouchingCircles", spec := "fnExactTouchingCircles", apart := false, narrowed := true }
def FnExactTouchingCirclesUptoSaid : Prop := fnExactTouchingCirclesUptoRow.holds Try.pinned (OpenSpec.upto fnExactTouchingCirclesSpec)

/-- 'laws.FnExactParentFraction', WHERE WHAT IT READS IS OF BULK AT MOST 1048576: true; the input reads as it did. -/
def fnExactParentFractionUptoRow : OpenClaim := { program := "ytjcjcligeiddlaa", sum := "738336b3525af960dec45f2d9a99e4cd57141c21a675597cc1ec1259462d7721", func := "loop.example/g01007/laws.FnExactParentFraction", spec := "fnExactParentFraction", apart := false, narrowed := true }
def FnExactParentFractionUptoSaid : Prop := fnExactParentFractionUptoRow.holds Try.pinned (OpenSpec.upto fnExactParentFractionSpec)

end Rows
end Go.Proofs.Ytjcjcligeiddlaa
