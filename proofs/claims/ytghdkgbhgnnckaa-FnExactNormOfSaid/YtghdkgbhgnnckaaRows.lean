/-
  No cell of these rows narrows 'for every input' (looked for: loops, veiled, ifaces, maps, wideKeys, modest, calm, conditions, laid).
  DERIVED. THE GIVEN ROWS OF THIS SEAT. 12 by the template 'for every input the law returns true; each argument reads behind the call as it read before'; 0 by the template 'total and deterministic' (their statements: YtghdkgbhgnnckaaTotals.lean).
  GIVEN WITH THE SEED: the statements are not yours to turn. If you find one false, say at which input.
  Laid BY PROGRAM, IN A SANDBOX (cutbox-rows.mjs): the forced cells as the released guide's own fill.sh prints them over the translation 492b3dee8980fb00… (all of the seat's roots in one cut). By AI agents, Wed Nov 11 2026. No macro, syntax, notation, axiom, sorry.
-/
import Derived.Test.YtghdkgbhgnnckaaChecked
import GoSem.Claim
import GoSem.ClaimJoined
import GoSem.ClaimMapViews
import Derived.JoinedTies
import Derived.KernelRfl
namespace Go.Proofs.Ytghdkgbhgnnckaa
/- THE CELL 'sum', in the pinned program and in every row, IS THE sha256 OF THE DUMP (.gsa) THAT YtghdkgbhgnnckaaProg.lean LOADS. Nothing in Lean hashes anything: it is a label: what it is worth is what the hold of that sum in a sandbox is worth. -/
noncomputable def Try.pinned : Pinned := { name := "ytghdkgbhgnnckaa", sum := "492b3dee8980fb0013a9f60a3c5251f3704aed9ab4c41c528a52df1cbc3be797", checked := Try.checked }
namespace Rows
def none {H : Type} : Left H := { results := [], args := [] }

/-- 'laws.FnExactRootOf': WHATEVER THE INPUT: true; the input reads as it did. -/
def fnExactRootOfSpec : ChangeSpec := { name := "fnExactRootOf", fn := fun _ => fun
  | [d] => { results := [.lit (.bool true)], args := [d] }
  | _ => none }
def fnExactRootOfRow : OpenClaim := { program := "ytghdkgbhgnnckaa", sum := "492b3dee8980fb0013a9f60a3c5251f3704aed9ab4c41c528a52df1cbc3be797", func := "loop.example/g01007/laws.FnExactRootOf", spec := "fnExactRootOf", inPlace := ["math.sqrt"], apart := false }
def FnExactRootOfSaid : Prop := fnExactRootOfRow.holds Try.pinned (OpenSpec.ofChange fnExactRootOfSpec)

/-- ITS FALSE NEIGHBOUR: 'it returns false'. Refute it at one input. -/
def fnExactRootOfWrong : ChangeSpec := { name := "fnExactRootOf", fn := fun _ => fun
  | [d] => { results := [.lit (.bool false)], args := [d] }
  | _ => none }
def FnExactRootOfWrongFalsely : Prop := fnExactRootOfRow.holds Try.pinned (OpenSpec.ofChange fnExactRootOfWrong)

/-- 'laws.FnExactValidSurd': WHATEVER THE INPUT: true; the input reads as it did. -/
def fnExactValidSurdSpec : ChangeSpec := { name := "fnExactValidSurd", fn := fun _ => fun
  | [d] => { results := [.lit (.bool true)], args := [d] }
  | _ => none }
def fnExactValidSurdRow : OpenClaim := { program := "ytghdkgbhgnnckaa", sum := "492b3dee8980fb0013a9f60a3c5251f3704aed9ab4c41c528a52df1cbc3be797", func := "loop.example/g01007/laws.FnExactValidSurd", spec := "fnExactValidSurd", inPlace := ["math.sqrt"], apart := false }
def FnExactValidSurdSaid : Prop := fnExactValidSurdRow.holds Try.pinned (OpenSpec.ofChange fnExactValidSurdSpec)

/-- ITS FALSE NEIGHBOUR: 'it returns false'. Refute it at one input. -/
def fnExactValidSurdWrong : ChangeSpec := { name := "fnExactValidSurd", fn := fun _ => fun
  | [d] => { results := [.lit (.bool false)], args := [d] }
  | _ => none }
def FnExactValidSurdWrongFalsely : Prop := fnExactValidSurdRow.holds Try.pinned (OpenSpec.ofChange fnExactValidSurdWrong)

/-- 'laws.FnExactConjugateOf': WHATEVER THE INPUT: true; the input reads as it did. -/
def fnExactConjugateOfSpec : ChangeSpec := { name := "fnExactConjugateOf", fn := fun _ => fun
  | [d] => { results := [.lit (.bool true)], args := [d] }
  | _ => none }
def fnExactConjugateOfRow : OpenClaim := { program := "ytghdkgbhgnnckaa", sum := "492b3dee8980fb0013a9f60a3c5251f3704aed9ab4c41c528a52df1cbc3be797", func := "loop.example/g01007/laws.FnExactConjugateOf", spec := "fnExactConjugateOf", inPlace := ["math.sqrt"], apart := false }
def FnExactConjugateOfSaid : Prop := fnExactConjugateOfRow.holds Try.pinned (OpenSpec.ofChange fnExactConjugateOfSpec)

/-- ITS FALSE NEIGHBOUR: 'it returns false'. Refute it at one input. -/
def fnExactConjugateOfWrong : ChangeSpec := { name := "fnExactConjugateOf", fn := fun _ => fun
  | [d] => { results := [.lit (.bool false)], args := [d] }
  | _ => none }
def FnExactConjugateOfWrongFalsely : Prop := fnExactConjugateOfRow.holds Try.pinned (OpenSpec.ofChange fnExactConjugateOfWrong)

/-- 'laws.FnExactIsReduced': WHATEVER THE INPUT: true; the input reads as it did. -/
def fnExactIsReducedSpec : ChangeSpec := { name := "fnExactIsReduced", fn := fun _ => fun
  | [d] => { results := [.lit (.bool true)], args := [d] }
  | _ => none }
def fnExactIsReducedRow : OpenClaim := { program := "ytghdkgbhgnnckaa", sum := "492b3dee8980fb0013a9f60a3c5251f3704aed9ab4c41c528a52df1cbc3be797", func := "loop.example/g01007/laws.FnExactIsReduced", spec := "fnExactIsReduced", inPlace := ["math.sqrt"], apart := false }
def FnExactIsReducedSaid : Prop := fnExactIsReducedRow.holds Try.pinned (OpenSpec.ofChange fnExactIsReducedSpec)

/-- ITS FALSE NEIGHBOUR: 'it returns false'. Refute it at one input. -/
def fnExactIsReducedWrong : ChangeSpec := { name := "fnExactIsReduced", fn := fun _ => fun
  | [d] => { results := [.lit (.bool false)], args := [d] }
  | _ => none }
def FnExactIsReducedWrongFalsely : Prop := fnExactIsReducedRow.holds Try.pinned (OpenSpec.ofChange fnExactIsReducedWrong)

/-- 'laws.FnExactFloorSurd': WHATEVER THE INPUT: true; the input reads as it did. -/
def fnExactFloorSurdSpec : ChangeSpec := { name := "fnExactFloorSurd", fn := fun _ => fun
  | [d] => { results := [.lit (.bool true)], args := [d] }
  | _ => none }
def fnExactFloorSurdRow : OpenClaim := { program := "ytghdkgbhgnnckaa", sum := "492b3dee8980fb0013a9f60a3c5251f3704aed9ab4c41c528a52df1cbc3be797", func := "loop.example/g01007/laws.FnExactFloorSurd", spec := "fnExactFloorSurd", inPlace := ["math.sqrt"], apart := false }
def FnExactFloorSurdSaid : Prop := fnExactFloorSurdRow.holds Try.pinned (OpenSpec.ofChange fnExactFloorSurdSpec)

/-- ITS FALSE NEIGHBOUR: 'it returns false'. Refute it at one input. -/
def fnExactFloorSurdWrong : ChangeSpec := { name := "fnExactFloorSurd", fn := fun _ => fun
  | [d] => { results := [.lit (.bool false)], args := [d] }
  | _ => none }
def FnExactFloorSurdWrongFalsely : Prop := fnExactFloorSurdRow.holds Try.pinned (OpenSpec.ofChange fnExactFloorSurdWrong)

/-- 'laws.FnExactEquationOf': WHATEVER THE INPUT: true; the input reads as it did. -/
def fnExactEquationOfSpec : ChangeSpec := { name := "fnExactEquationOf", fn := fun _ => fun
  | [d] => { results := [.lit (.bool true)], args := [d] }
  | _ => none }
def fnExactEquationOfRow : OpenClaim := { program := "ytghdkgbhgnnckaa", sum := "492b3dee8980fb0013a9f60a3c5251f3704aed9ab4c41c528a52df1cbc3be797", func := "loop.example/g01007/laws.FnExactEquationOf", spec := "fnExactEquationOf", inPlace := ["math.sqrt"], apart := false }
def FnExactEquationOfSaid : Prop := fnExactEquationOfRow.holds Try.pinned (OpenSpec.ofChange fnExactEquationOfSpec)

/-- ITS FALSE NEIGHBOUR: 'it returns false'. Refute it at one input. -/
def fnExactEquationOfWrong : ChangeSpec := { name := "fnExactEquationOf", fn := fun _ => fun
  | [d] => { results := [.lit (.bool false)], args := [d] }
  | _ => none }
def FnExactEquationOfWrongFalsely : Prop := fnExactEquationOfRow.holds Try.pinned (OpenSpec.ofChange fnExactEquationOfWrong)

/-- 'laws.FnExactMakeSurd': WHATEVER THE INPUT: true; the input reads as it did. -/
def fnExactMakeSurdSpec : ChangeSpec := { name := "fnExactMakeSurd", fn := fun _ => fun
  | [d1, d2, d3] => { results := [.lit (.bool true)], args := [d1, d2, d3] }
  | _ => none }
def fnExactMakeSurdRow : OpenClaim := { program := "ytghdkgbhgnnckaa", sum := "492b3dee8980fb0013a9f60a3c5251f3704aed9ab4c41c528a52df1cbc3be797", func := "loop.example/g01007/laws.FnExactMakeSurd", spec := "fnExactMakeSurd", inPlace := ["math.sqrt"], apart := false }
def FnExactMakeSurdSaid : Prop := fnExactMakeSurdRow.holds Try.pinned (OpenSpec.ofChange fnExactMakeSurdSpec)

/-- ITS FALSE NEIGHBOUR: 'it returns false'. Refute it at one input. -/
def fnExactMakeSurdWrong : ChangeSpec := { name := "fnExactMakeSurd", fn := fun _ => fun
  | [d1, d2, d3] => { results := [.lit (.bool false)], args := [d1, d2, d3] }
  | _ => none }
def FnExactMakeSurdWrongFalsely : Prop := fnExactMakeSurdRow.holds Try.pinned (OpenSpec.ofChange fnExactMakeSurdWrong)

/-- 'laws.FnExactNextSurd': WHATEVER THE INPUT: true; the input reads as it did. -/
def fnExactNextSurdSpec : ChangeSpec := { name := "fnExactNextSurd", fn := fun _ => fun
  | [d] => { results := [.lit (.bool true)], args := [d] }
  | _ => none }
def fnExactNextSurdRow : OpenClaim := { program := "ytghdkgbhgnnckaa", sum := "492b3dee8980fb0013a9f60a3c5251f3704aed9ab4c41c528a52df1cbc3be797", func := "loop.example/g01007/laws.FnExactNextSurd", spec := "fnExactNextSurd", inPlace := ["math.sqrt"], apart := false }
def FnExactNextSurdSaid : Prop := fnExactNextSurdRow.holds Try.pinned (OpenSpec.ofChange fnExactNextSurdSpec)

/-- ITS FALSE NEIGHBOUR: 'it returns false'. Refute it at one input. -/
def fnExactNextSurdWrong : ChangeSpec := { name := "fnExactNextSurd", fn := fun _ => fun
  | [d] => { results := [.lit (.bool false)], args := [d] }
  | _ => none }
def FnExactNextSurdWrongFalsely : Prop := fnExactNextSurdRow.holds Try.pinned (OpenSpec.ofChange fnExactNextSurdWrong)

/-- 'laws.FnExactCompareSurd': WHATEVER THE INPUT: true; the input reads as it did. -/
def fnExactCompareSurdSpec : ChangeSpec := { name := "fnExactCompareSurd", fn := fun _ => fun
  | [d1, d2] => { results := [.lit (.bool true)], args := [d1, d2] }
  | _ => none }
def fnExactCompareSurdRow : OpenClaim := { program := "ytghdkgbhgnnckaa", sum := "492b3dee8980fb0013a9f60a3c5251f3704aed9ab4c41c528a52df1cbc3be797", func := "loop.example/g01007/laws.FnExactCompareSurd", spec := "fnExactCompareSurd", inPlace := ["math.sqrt"], apart := false }
def FnExactCompareSurdSaid : Prop := fnExactCompareSurdRow.holds Try.pinned (OpenSpec.ofChange fnExactCompareSurdSpec)

/-- ITS FALSE NEIGHBOUR: 'it returns false'. Refute it at one input. -/
def fnExactCompareSurdWrong : ChangeSpec := { name := "fnExactCompareSurd", fn := fun _ => fun
  | [d1, d2] => { results := [.lit (.bool false)], args := [d1, d2] }
  | _ => none }
def FnExactCompareSurdWrongFalsely : Prop := fnExactCompareSurdRow.holds Try.pinned (OpenSpec.ofChange fnExactCompareSurdWrong)

/-- 'laws.FnExactTermsOfSurd': WHATEVER THE INPUT: true; the input reads as it did. -/
def fnExactTermsOfSurdSpec : ChangeSpec := { name := "fnExactTermsOfSurd", fn := fun _ => fun
  | [d1, d2] => { results := [.lit (.bool true)], args := [d1, d2] }
  | _ => none }
def fnExactTermsOfSurdRow : OpenClaim := { program := "ytghdkgbhgnnckaa", sum := "492b3dee8980fb0013a9f60a3c5251f3704aed9ab4c41c528a52df1cbc3be797", func := "loop.example/g01007/laws.FnExactTermsOfSurd", spec := "fnExactTermsOfSurd", inPlace := ["math.sqrt"], apart := false }
def FnExactTermsOfSurdSaid : Prop := fnExactTermsOfSurdRow.holds Try.pinned (OpenSpec.ofChange fnExactTermsOfSurdSpec)

/-- ITS FALSE NEIGHBOUR: 'it returns false'. Refute it at one input. -/
def fnExactTermsOfSurdWrong : ChangeSpec := { name := "fnExactTermsOfSurd", fn := fun _ => fun
  | [d1, d2] => { results := [.lit (.bool false)], args := [d1, d2] }
  | _ => none }
def FnExactTermsOfSurdWrongFalsely : Prop := fnExactTermsOfSurdRow.holds Try.pinned (OpenSpec.ofChange fnExactTermsOfSurdWrong)

/-- 'laws.FnExactNormOf': WHATEVER THE INPUT: true; the input reads as it did. -/
def fnExactNormOfSpec : ChangeSpec := { name := "fnExactNormOf", fn := fun _ => fun
  | [d1, d2] => { results := [.lit (.bool true)], args := [d1, d2] }
  | _ => none }
def fnExactNormOfRow : OpenClaim := { program := "ytghdkgbhgnnckaa", sum := "492b3dee8980fb0013a9f60a3c5251f3704aed9ab4c41c528a52df1cbc3be797", func := "loop.example/g01007/laws.FnExactNormOf", spec := "fnExactNormOf", inPlace := ["math.sqrt"], apart := false }
def FnExactNormOfSaid : Prop := fnExactNormOfRow.holds Try.pinned (OpenSpec.ofChange fnExactNormOfSpec)

/-- ITS FALSE NEIGHBOUR: 'it returns false'. Refute it at one input. -/
def fnExactNormOfWrong : ChangeSpec := { name := "fnExactNormOf", fn := fun _ => fun
  | [d1, d2] => { results := [.lit (.bool false)], args := [d1, d2] }
  | _ => none }
def FnExactNormOfWrongFalsely : Prop := fnExactNormOfRow.holds Try.pinned (OpenSpec.ofChange fnExactNormOfWrong)

/-- 'laws.FnExactMulPairs': WHATEVER THE INPUT: true; the input reads as it did. -/
def fnExactMulPairsSpec : ChangeSpec := { name := "fnExactMulPairs", fn := fun _ => fun
  | [d1, d2, d3] => { results := [.lit (.bool true)], args := [d1, d2, d3] }
  | _ => none }
def fnExactMulPairsRow : OpenClaim := { program := "ytghdkgbhgnnckaa", sum := "492b3dee8980fb0013a9f60a3c5251f3704aed9ab4c41c528a52df1cbc3be797", func := "loop.example/g01007/laws.FnExactMulPairs", spec := "fnExactMulPairs", inPlace := ["math.sqrt"], apart := false }
def FnExactMulPairsSaid : Prop := fnExactMulPairsRow.holds Try.pinned (OpenSpec.ofChange fnExactMulPairsSpec)

/-- ITS FALSE NEIGHBOUR: 'it returns false'. Refute it at one input. -/
def fnExactMulPairsWrong : ChangeSpec := { name := "fnExactMulPairs", fn := fun _ => fun
  | [d1, d2, d3] => { results := [.lit (.bool false)], args := [d1, d2, d3] }
  | _ => none }
def FnExactMulPairsWrongFalsely : Prop := fnExactMulPairsRow.holds Try.pinned (OpenSpec.ofChange fnExactMulPairsWrong)

/- THE SECOND FORM. 'bulk': how many values and letters a reading holds, each counted each time it is reached (what is shared counts as often as it is met; a slice's spare places count too). A statement '..UptoSaid' is the law's where the arguments, and the package variables that the reading takes, are together of bulk at most 1048576: NARROWER than '..Said'. Prove '..Said' where nothing that the law and all that it calls make is longer than what came in: it says more and counts as full. Else prove '..UptoSaid'. A law counts once. -/
mutual
def uptoBulk {H : Type} : DataW H → Nat
  | .lit (.string bytes) => bytes.length + 1
  | .lit _ => 1
  | .nil => 1
  | .ptr d => uptoBulk d + 1
  | .slice elems spare => uptoBulkAll elems + uptoBulkAll spare + 1
  | .agg parts => uptoBulkAll parts + 1
  | .iface _ d => uptoBulk d + 1
  | .map entries => uptoBulkEntries entries + 1
  | .held _ => 1
def uptoBulkAll {H : Type} : List (DataW H) → Nat
  | [] => 0
  | d :: r => uptoBulk d + uptoBulkAll r
def uptoBulkEntries {H : Type} : List (Lit × DataW H) → Nat
  | [] => 0
  | x :: r => uptoBulkEntry x + uptoBulkEntries r
def uptoBulkEntry {H : Type} : Lit × DataW H → Nat
  | (.string bytes, d) => bytes.length + uptoBulk d + 1
  | (_, d) => uptoBulk d + 1
 end
def uptoSmall : (H : Type) → List (DataW H) → Bool := fun _ ds => decide (uptoBulkAll ds ≤ 1048576)
def OpenSpec.upto (s : _root_.Go.ChangeSpec) : _root_.Go.OpenSpec := { _root_.Go.OpenSpec.ofChange s with cond := some uptoSmall }

/-- 'laws.FnExactRootOf', WHERE WHAT IT READS IS OF BULK AT MOST 1048576: true; the input reads as it did. -/
def fnExactRootOfUptoRow : OpenClaim := { program := "ytghdkgbhgnnckaa", sum := "492b3dee8980fb0013a9f60a3c5251f3704aed9ab4c41c528a52df1cbc3be797", func := "loop.example/g01007/laws.FnExactRootOf", spec := "fnExactRootOf", inPlace := ["math.sqrt"], apart := false, narrowed := true }
def FnExactRootOfUptoSaid : Prop := fnExactRootOfUptoRow.holds Try.pinned (OpenSpec.upto fnExactRootOfSpec)

/-- 'laws.FnExactValidSurd', WHERE WHAT IT READS IS OF BULK AT MOST 1048576: true; the input reads as it did. -/
def fnExactValidSurdUptoRow : OpenClaim := { program := "ytghdkgbhgnnckaa", sum := "492b3dee8980fb0013a9f60a3c5251f3704aed9ab4c41c528a52df1cbc3be797", func := "loop.example/g01007/laws.FnExactValidSurd", spec := "fnExactValidSurd", inPlace := ["math.sqrt"], apart := false, narrowed := true }
def FnExactValidSurdUptoSaid : Prop := fnExactValidSurdUptoRow.holds Try.pinned (OpenSpec.upto fnExactValidSurdSpec)

/-- 'laws.FnExactConjugateOf', WHERE WHAT IT READS IS OF BULK AT MOST 1048576: true; the input reads as it did. -/
def fnExactConjugateOfUptoRow : OpenClaim := { program := "ytghdkgbhgnnckaa", sum := "492b3dee8980fb0013a9f60a3c5251f3704aed9ab4c41c528a52df1cbc3be797", func := "loop.example/g01007/laws.FnExactConjugateOf", spec := "fnExactConjugateOf", inPlace := ["math.sqrt"], apart := false, narrowed := true }
def FnExactConjugateOfUptoSaid : Prop := fnExactConjugateOfUptoRow.holds Try.pinned (OpenSpec.upto fnExactConjugateOfSpec)

/-- 'laws.FnExactIsReduced', WHERE WHAT IT READS IS OF BULK AT MOST 1048576: true; the input reads as it did. -/
def fnExactIsReducedUptoRow : OpenClaim := { program := "ytghdkgbhgnnckaa", sum := "492b3dee8980fb0013a9f60a3c5251f3704aed9ab4c41c528a52df1cbc3be797", func := "loop.example/g01007/laws.FnExactIsReduced", spec := "fnExactIsReduced", inPlace := ["math.sqrt"], apart := false, narrowed := true }
def FnExactIsReducedUptoSaid : Prop := fnExactIsReducedUptoRow.holds Try.pinned (OpenSpec.upto fnExactIsReducedSpec)

/-- 'laws.FnExactFloorSurd', WHERE WHAT IT READS IS OF BULK AT MOST 1048576: true; the input reads as it did. -/
def fnExactFloorSurdUptoRow : OpenClaim := { program := "ytghdkgbhgnnckaa", sum := "492b3dee8980fb0013a9f60a3c5251f3704aed9ab4c41c528a52df1cbc3be797", func := "loop.example/g01007/laws.FnExactFloorSurd", spec := "fnExactFloorSurd", inPlace := ["math.sqrt"], apart := false, narrowed := true }
def FnExactFloorSurdUptoSaid : Prop := fnExactFloorSurdUptoRow.holds Try.pinned (OpenSpec.upto fnExactFloorSurdSpec)

/-- 'laws.FnExactEquationOf', WHERE WHAT IT READS IS OF BULK AT MOST 1048576: true; the input reads as it did. -/
def fnExactEquationOfUptoRow : OpenClaim := { program := "ytghdkgbhgnnckaa", sum := "492b3dee8980fb0013a9f60a3c5251f3704aed9ab4c41c528a52df1cbc3be797", func := "loop.example/g01007/laws.FnExactEquationOf", spec := "fnExactEquationOf", inPlace := ["math.sqrt"], apart := false, narrowed := true }
def FnExactEquationOfUptoSaid : Prop := fnExactEquationOfUptoRow.holds Try.pinned (OpenSpec.upto fnExactEquationOfSpec)

/-- 'laws.FnExactMakeSurd', WHERE WHAT IT READS IS OF BULK AT MOST 1048576: true; the input reads as it did. -/
def fnExactMakeSurdUptoRow : OpenClaim := { program := "ytghdkgbhgnnckaa", sum := "492b3dee8980fb0013a9f60a3c5251f3704aed9ab4c41c528a52df1cbc3be797", func := "loop.example/g01007/laws.FnExactMakeSurd", spec := "fnExactMakeSurd", inPlace := ["math.sqrt"], apart := false, narrowed := true }
def FnExactMakeSurdUptoSaid : Prop := fnExactMakeSurdUptoRow.holds Try.pinned (OpenSpec.upto fnExactMakeSurdSpec)

/-- 'laws.FnExactNextSurd', WHERE WHAT IT READS IS OF BULK AT MOST 1048576: true; the input reads as it did. -/
def fnExactNextSurdUptoRow : OpenClaim := { program := "ytghdkgbhgnnckaa", sum := "492b3dee8980fb0013a9f60a3c5251f3704aed9ab4c41c528a52df1cbc3be797", func := "loop.example/g01007/laws.FnExactNextSurd", spec := "fnExactNextSurd", inPlace := ["math.sqrt"], apart := false, narrowed := true }
def FnExactNextSurdUptoSaid : Prop := fnExactNextSurdUptoRow.holds Try.pinned (OpenSpec.upto fnExactNextSurdSpec)

/-- 'laws.FnExactCompareSurd', WHERE WHAT IT READS IS OF BULK AT MOST 1048576: true; the input reads as it did. -/
def fnExactCompareSurdUptoRow : OpenClaim := { program := "ytghdkgbhgnnckaa", sum := "492b3dee8980fb0013a9f60a3c5251f3704aed9ab4c41c528a52df1cbc3be797", func := "loop.example/g01007/laws.FnExactCompareSurd", spec := "fnExactCompareSurd", inPlace := ["math.sqrt"], apart := false, narrowed := true }
def FnExactCompareSurdUptoSaid : Prop := fnExactCompareSurdUptoRow.holds Try.pinned (OpenSpec.upto fnExactCompareSurdSpec)

/-- 'laws.FnExactTermsOfSurd', WHERE WHAT IT READS IS OF BULK AT MOST 1048576: true; the input reads as it did. -/
def fnExactTermsOfSurdUptoRow : OpenClaim := { program := "ytghdkgbhgnnckaa", sum := "492b3dee8980fb0013a9f60a3c5251f3704aed9ab4c41c528a52df1cbc3be797", func := "loop.example/g01007/laws.FnExactTermsOfSurd", spec := "fnExactTermsOfSurd", inPlace := ["math.sqrt"], apart := false, narrowed := true }
def FnExactTermsOfSurdUptoSaid : Prop := fnExactTermsOfSurdUptoRow.holds Try.pinned (OpenSpec.upto fnExactTermsOfSurdSpec)

/-- 'laws.FnExactNormOf', WHERE WHAT IT READS IS OF BULK AT MOST 1048576: true; the input reads as it did. -/
def fnExactNormOfUptoRow : OpenClaim := { program := "ytghdkgbhgnnckaa", sum := "492b3dee8980fb0013a9f60a3c5251f3704aed9ab4c41c528a52df1cbc3be797", func := "loop.example/g01007/laws.FnExactNormOf", spec := "fnExactNormOf", inPlace := ["math.sqrt"], apart := false, narrowed := true }
def FnExactNormOfUptoSaid : Prop := fnExactNormOfUptoRow.holds Try.pinned (OpenSpec.upto fnExactNormOfSpec)

/-- 'laws.FnExactMulPairs', WHERE WHAT IT READS IS OF BULK AT MOST 1048576: true; the input reads as it did. -/
def fnExactMulPairsUptoRow : OpenClaim := { program := "ytghdkgbhgnnckaa", sum := "492b3dee8980fb0013a9f60a3c5251f3704aed9ab4c41c528a52df1cbc3be797", func := "loop.example/g01007/laws.FnExactMulPairs", spec := "fnExactMulPairs", inPlace := ["math.sqrt"], apart := false, narrowed := true }
def FnExactMulPairsUptoSaid : Prop := fnExactMulPairsUptoRow.holds Try.pinned (OpenSpec.upto fnExactMulPairsSpec)

end Rows
end Go.Proofs.Ytghdkgbhgnnckaa
