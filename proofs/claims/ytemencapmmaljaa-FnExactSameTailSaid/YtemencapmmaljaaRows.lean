/-
  No cell of these rows narrows 'for every input' (looked for: loops, veiled, ifaces, maps, wideKeys, modest, calm, conditions, laid).
  DERIVED. THE GIVEN ROWS OF THIS SEAT. 14 by the template 'for every input the law returns true; each argument reads behind the call as it read before'; 0 by the template 'total and deterministic' (their statements: YtemencapmmaljaaTotals.lean).
  GIVEN WITH THE SEED: the statements are not yours to turn. If you find one false, say at which input.
  Laid BY PROGRAM, IN A SANDBOX (cutbox-rows.mjs): the forced cells as the released guide's own fill.sh prints them over the translation 44dc4e8fc25f0815… (all of the seat's roots in one cut). By AI agents, Wed Nov 11 2026. No macro, syntax, notation, axiom, sorry.
-/
import Derived.Test.YtemencapmmaljaaChecked
import GoSem.Claim
import GoSem.ClaimJoined
import GoSem.ClaimMapViews
import Derived.JoinedTies
import Derived.KernelRfl
namespace Go.Proofs.Ytemencapmmaljaa
/- THE CELL 'sum', in the pinned program and in every row, IS THE sha256 OF THE DUMP (.gsa) THAT YtemencapmmaljaaProg.lean LOADS. Nothing in Lean hashes anything: it is a label: what it is worth is what the hold of that sum in a sandbox is worth. -/
noncomputable def Try.pinned : Pinned := { name := "ytemencapmmaljaa", sum := "44dc4e8fc25f08159c42c93314c9db3d628a169910c03081eb9809b7ba9da008", checked := Try.checked }
namespace Rows
def none {H : Type} : Left H := { results := [], args := [] }

/-- 'laws.FnExactTermsOfSurd': WHATEVER THE INPUT: true; the input reads as it did. -/
def fnExactTermsOfSurdSpec : ChangeSpec := { name := "fnExactTermsOfSurd", fn := fun _ => fun
  | [d1, d2] => { results := [.lit (.bool true)], args := [d1, d2] }
  | _ => none }
def fnExactTermsOfSurdRow : OpenClaim := { program := "ytemencapmmaljaa", sum := "44dc4e8fc25f08159c42c93314c9db3d628a169910c03081eb9809b7ba9da008", func := "loop.example/g01007/laws.FnExactTermsOfSurd", spec := "fnExactTermsOfSurd", inPlace := ["math.sqrt"], plainKeys := false, apart := false }
def FnExactTermsOfSurdSaid : Prop := fnExactTermsOfSurdRow.holds Try.pinned (OpenSpec.ofChange fnExactTermsOfSurdSpec)

/-- ITS FALSE NEIGHBOUR: 'it returns false'. Refute it at one input. -/
def fnExactTermsOfSurdWrong : ChangeSpec := { name := "fnExactTermsOfSurd", fn := fun _ => fun
  | [d1, d2] => { results := [.lit (.bool false)], args := [d1, d2] }
  | _ => none }
def FnExactTermsOfSurdWrongFalsely : Prop := fnExactTermsOfSurdRow.holds Try.pinned (OpenSpec.ofChange fnExactTermsOfSurdWrong)

/-- 'laws.FnExactMulPairs': WHATEVER THE INPUT: true; the input reads as it did. -/
def fnExactMulPairsSpec : ChangeSpec := { name := "fnExactMulPairs", fn := fun _ => fun
  | [d1, d2, d3] => { results := [.lit (.bool true)], args := [d1, d2, d3] }
  | _ => none }
def fnExactMulPairsRow : OpenClaim := { program := "ytemencapmmaljaa", sum := "44dc4e8fc25f08159c42c93314c9db3d628a169910c03081eb9809b7ba9da008", func := "loop.example/g01007/laws.FnExactMulPairs", spec := "fnExactMulPairs", inPlace := ["math.sqrt"], plainKeys := false, apart := false }
def FnExactMulPairsSaid : Prop := fnExactMulPairsRow.holds Try.pinned (OpenSpec.ofChange fnExactMulPairsSpec)

/-- ITS FALSE NEIGHBOUR: 'it returns false'. Refute it at one input. -/
def fnExactMulPairsWrong : ChangeSpec := { name := "fnExactMulPairs", fn := fun _ => fun
  | [d1, d2, d3] => { results := [.lit (.bool false)], args := [d1, d2, d3] }
  | _ => none }
def FnExactMulPairsWrongFalsely : Prop := fnExactMulPairsRow.holds Try.pinned (OpenSpec.ofChange fnExactMulPairsWrong)

/-- 'laws.FnExactIsPurelyPeriodic': WHATEVER THE INPUT: true; the input reads as it did. -/
def fnExactIsPurelyPeriodicSpec : ChangeSpec := { name := "fnExactIsPurelyPeriodic", fn := fun _ => fun
  | [d] => { results := [.lit (.bool true)], args := [d] }
  | _ => none }
def fnExactIsPurelyPeriodicRow : OpenClaim := { program := "ytemencapmmaljaa", sum := "44dc4e8fc25f08159c42c93314c9db3d628a169910c03081eb9809b7ba9da008", func := "loop.example/g01007/laws.FnExactIsPurelyPeriodic", spec := "fnExactIsPurelyPeriodic", inPlace := ["math.sqrt"], plainKeys := false, apart := false }
def FnExactIsPurelyPeriodicSaid : Prop := fnExactIsPurelyPeriodicRow.holds Try.pinned (OpenSpec.ofChange fnExactIsPurelyPeriodicSpec)

/-- ITS FALSE NEIGHBOUR: 'it returns false'. Refute it at one input. -/
def fnExactIsPurelyPeriodicWrong : ChangeSpec := { name := "fnExactIsPurelyPeriodic", fn := fun _ => fun
  | [d] => { results := [.lit (.bool false)], args := [d] }
  | _ => none }
def FnExactIsPurelyPeriodicWrongFalsely : Prop := fnExactIsPurelyPeriodicRow.holds Try.pinned (OpenSpec.ofChange fnExactIsPurelyPeriodicWrong)

/-- 'laws.FnExactPeriodLength': WHATEVER THE INPUT: true; the input reads as it did. -/
def fnExactPeriodLengthSpec : ChangeSpec := { name := "fnExactPeriodLength", fn := fun _ => fun
  | [d] => { results := [.lit (.bool true)], args := [d] }
  | _ => none }
def fnExactPeriodLengthRow : OpenClaim := { program := "ytemencapmmaljaa", sum := "44dc4e8fc25f08159c42c93314c9db3d628a169910c03081eb9809b7ba9da008", func := "loop.example/g01007/laws.FnExactPeriodLength", spec := "fnExactPeriodLength", inPlace := ["math.sqrt"], plainKeys := false, apart := false }
def FnExactPeriodLengthSaid : Prop := fnExactPeriodLengthRow.holds Try.pinned (OpenSpec.ofChange fnExactPeriodLengthSpec)

/-- ITS FALSE NEIGHBOUR: 'it returns false'. Refute it at one input. -/
def fnExactPeriodLengthWrong : ChangeSpec := { name := "fnExactPeriodLength", fn := fun _ => fun
  | [d] => { results := [.lit (.bool false)], args := [d] }
  | _ => none }
def FnExactPeriodLengthWrongFalsely : Prop := fnExactPeriodLengthRow.holds Try.pinned (OpenSpec.ofChange fnExactPeriodLengthWrong)

/-- 'laws.FnExactLongestRoot': WHATEVER THE INPUT: true; the input reads as it did. -/
def fnExactLongestRootSpec : ChangeSpec := { name := "fnExactLongestRoot", fn := fun _ => fun
  | [d] => { results := [.lit (.bool true)], args := [d] }
  | _ => none }
def fnExactLongestRootRow : OpenClaim := { program := "ytemencapmmaljaa", sum := "44dc4e8fc25f08159c42c93314c9db3d628a169910c03081eb9809b7ba9da008", func := "loop.example/g01007/laws.FnExactLongestRoot", spec := "fnExactLongestRoot", inPlace := ["math.sqrt"], plainKeys := false, apart := false }
def FnExactLongestRootSaid : Prop := fnExactLongestRootRow.holds Try.pinned (OpenSpec.ofChange fnExactLongestRootSpec)

/-- ITS FALSE NEIGHBOUR: 'it returns false'. Refute it at one input. -/
def fnExactLongestRootWrong : ChangeSpec := { name := "fnExactLongestRoot", fn := fun _ => fun
  | [d] => { results := [.lit (.bool false)], args := [d] }
  | _ => none }
def FnExactLongestRootWrongFalsely : Prop := fnExactLongestRootRow.holds Try.pinned (OpenSpec.ofChange fnExactLongestRootWrong)

/-- 'laws.FnExactRootPeriod': WHATEVER THE INPUT: true; the input reads as it did. -/
def fnExactRootPeriodSpec : ChangeSpec := { name := "fnExactRootPeriod", fn := fun _ => fun
  | [d] => { results := [.lit (.bool true)], args := [d] }
  | _ => none }
def fnExactRootPeriodRow : OpenClaim := { program := "ytemencapmmaljaa", sum := "44dc4e8fc25f08159c42c93314c9db3d628a169910c03081eb9809b7ba9da008", func := "loop.example/g01007/laws.FnExactRootPeriod", spec := "fnExactRootPeriod", inPlace := ["math.sqrt"], plainKeys := false, apart := false }
def FnExactRootPeriodSaid : Prop := fnExactRootPeriodRow.holds Try.pinned (OpenSpec.ofChange fnExactRootPeriodSpec)

/-- ITS FALSE NEIGHBOUR: 'it returns false'. Refute it at one input. -/
def fnExactRootPeriodWrong : ChangeSpec := { name := "fnExactRootPeriod", fn := fun _ => fun
  | [d] => { results := [.lit (.bool false)], args := [d] }
  | _ => none }
def FnExactRootPeriodWrongFalsely : Prop := fnExactRootPeriodRow.holds Try.pinned (OpenSpec.ofChange fnExactRootPeriodWrong)

/-- 'laws.FnExactPeriodOf': WHATEVER THE INPUT: true; the input reads as it did. -/
def fnExactPeriodOfSpec : ChangeSpec := { name := "fnExactPeriodOf", fn := fun _ => fun
  | [d] => { results := [.lit (.bool true)], args := [d] }
  | _ => none }
def fnExactPeriodOfRow : OpenClaim := { program := "ytemencapmmaljaa", sum := "44dc4e8fc25f08159c42c93314c9db3d628a169910c03081eb9809b7ba9da008", func := "loop.example/g01007/laws.FnExactPeriodOf", spec := "fnExactPeriodOf", inPlace := ["math.sqrt"], plainKeys := false, apart := false }
def FnExactPeriodOfSaid : Prop := fnExactPeriodOfRow.holds Try.pinned (OpenSpec.ofChange fnExactPeriodOfSpec)

/-- ITS FALSE NEIGHBOUR: 'it returns false'. Refute it at one input. -/
def fnExactPeriodOfWrong : ChangeSpec := { name := "fnExactPeriodOf", fn := fun _ => fun
  | [d] => { results := [.lit (.bool false)], args := [d] }
  | _ => none }
def FnExactPeriodOfWrongFalsely : Prop := fnExactPeriodOfRow.holds Try.pinned (OpenSpec.ofChange fnExactPeriodOfWrong)

/-- 'laws.FnExactSameTail': WHATEVER THE INPUT: true; the input reads as it did. -/
def fnExactSameTailSpec : ChangeSpec := { name := "fnExactSameTail", fn := fun _ => fun
  | [d1, d2] => { results := [.lit (.bool true)], args := [d1, d2] }
  | _ => none }
def fnExactSameTailRow : OpenClaim := { program := "ytemencapmmaljaa", sum := "44dc4e8fc25f08159c42c93314c9db3d628a169910c03081eb9809b7ba9da008", func := "loop.example/g01007/laws.FnExactSameTail", spec := "fnExactSameTail", inPlace := ["math.sqrt"], unfollowed := true, recurses := true, plainKeys := false, apart := false }
def FnExactSameTailSaid : Prop := fnExactSameTailRow.holds Try.pinned (OpenSpec.ofChange fnExactSameTailSpec)

/-- ITS FALSE NEIGHBOUR: 'it returns false'. Refute it at one input. -/
def fnExactSameTailWrong : ChangeSpec := { name := "fnExactSameTail", fn := fun _ => fun
  | [d1, d2] => { results := [.lit (.bool false)], args := [d1, d2] }
  | _ => none }
def FnExactSameTailWrongFalsely : Prop := fnExactSameTailRow.holds Try.pinned (OpenSpec.ofChange fnExactSameTailWrong)

/-- 'laws.FnExactCycleOf': WHATEVER THE INPUT: true; the input reads as it did. -/
def fnExactCycleOfSpec : ChangeSpec := { name := "fnExactCycleOf", fn := fun _ => fun
  | [d] => { results := [.lit (.bool true)], args := [d] }
  | _ => none }
def fnExactCycleOfRow : OpenClaim := { program := "ytemencapmmaljaa", sum := "44dc4e8fc25f08159c42c93314c9db3d628a169910c03081eb9809b7ba9da008", func := "loop.example/g01007/laws.FnExactCycleOf", spec := "fnExactCycleOf", inPlace := ["math.sqrt"], plainKeys := false, apart := false }
def FnExactCycleOfSaid : Prop := fnExactCycleOfRow.holds Try.pinned (OpenSpec.ofChange fnExactCycleOfSpec)

/-- ITS FALSE NEIGHBOUR: 'it returns false'. Refute it at one input. -/
def fnExactCycleOfWrong : ChangeSpec := { name := "fnExactCycleOf", fn := fun _ => fun
  | [d] => { results := [.lit (.bool false)], args := [d] }
  | _ => none }
def FnExactCycleOfWrongFalsely : Prop := fnExactCycleOfRow.holds Try.pinned (OpenSpec.ofChange fnExactCycleOfWrong)

/-- 'laws.FnExactHasNegative': WHATEVER THE INPUT: true; the input reads as it did. -/
def fnExactHasNegativeSpec : ChangeSpec := { name := "fnExactHasNegative", fn := fun _ => fun
  | [d] => { results := [.lit (.bool true)], args := [d] }
  | _ => none }
def fnExactHasNegativeRow : OpenClaim := { program := "ytemencapmmaljaa", sum := "44dc4e8fc25f08159c42c93314c9db3d628a169910c03081eb9809b7ba9da008", func := "loop.example/g01007/laws.FnExactHasNegative", spec := "fnExactHasNegative", inPlace := ["math.sqrt"], plainKeys := false, apart := false }
def FnExactHasNegativeSaid : Prop := fnExactHasNegativeRow.holds Try.pinned (OpenSpec.ofChange fnExactHasNegativeSpec)

/-- ITS FALSE NEIGHBOUR: 'it returns false'. Refute it at one input. -/
def fnExactHasNegativeWrong : ChangeSpec := { name := "fnExactHasNegative", fn := fun _ => fun
  | [d] => { results := [.lit (.bool false)], args := [d] }
  | _ => none }
def FnExactHasNegativeWrongFalsely : Prop := fnExactHasNegativeRow.holds Try.pinned (OpenSpec.ofChange fnExactHasNegativeWrong)

/-- 'laws.FnExactUnitOf': WHATEVER THE INPUT: true; the input reads as it did. -/
def fnExactUnitOfSpec : ChangeSpec := { name := "fnExactUnitOf", fn := fun _ => fun
  | [d] => { results := [.lit (.bool true)], args := [d] }
  | _ => none }
def fnExactUnitOfRow : OpenClaim := { program := "ytemencapmmaljaa", sum := "44dc4e8fc25f08159c42c93314c9db3d628a169910c03081eb9809b7ba9da008", func := "loop.example/g01007/laws.FnExactUnitOf", spec := "fnExactUnitOf", inPlace := ["math.sqrt"], plainKeys := false, apart := false }
def FnExactUnitOfSaid : Prop := fnExactUnitOfRow.holds Try.pinned (OpenSpec.ofChange fnExactUnitOfSpec)

/-- ITS FALSE NEIGHBOUR: 'it returns false'. Refute it at one input. -/
def fnExactUnitOfWrong : ChangeSpec := { name := "fnExactUnitOf", fn := fun _ => fun
  | [d] => { results := [.lit (.bool false)], args := [d] }
  | _ => none }
def FnExactUnitOfWrongFalsely : Prop := fnExactUnitOfRow.holds Try.pinned (OpenSpec.ofChange fnExactUnitOfWrong)

/-- 'laws.FnExactLeastNegative': WHATEVER THE INPUT: true; the input reads as it did. -/
def fnExactLeastNegativeSpec : ChangeSpec := { name := "fnExactLeastNegative", fn := fun _ => fun
  | [d] => { results := [.lit (.bool true)], args := [d] }
  | _ => none }
def fnExactLeastNegativeRow : OpenClaim := { program := "ytemencapmmaljaa", sum := "44dc4e8fc25f08159c42c93314c9db3d628a169910c03081eb9809b7ba9da008", func := "loop.example/g01007/laws.FnExactLeastNegative", spec := "fnExactLeastNegative", inPlace := ["math.sqrt"], plainKeys := false, apart := false }
def FnExactLeastNegativeSaid : Prop := fnExactLeastNegativeRow.holds Try.pinned (OpenSpec.ofChange fnExactLeastNegativeSpec)

/-- ITS FALSE NEIGHBOUR: 'it returns false'. Refute it at one input. -/
def fnExactLeastNegativeWrong : ChangeSpec := { name := "fnExactLeastNegative", fn := fun _ => fun
  | [d] => { results := [.lit (.bool false)], args := [d] }
  | _ => none }
def FnExactLeastNegativeWrongFalsely : Prop := fnExactLeastNegativeRow.holds Try.pinned (OpenSpec.ofChange fnExactLeastNegativeWrong)

/-- 'laws.FnExactHardestPell': WHATEVER THE INPUT: true; the input reads as it did. -/
def fnExactHardestPellSpec : ChangeSpec := { name := "fnExactHardestPell", fn := fun _ => fun
  | [d] => { results := [.lit (.bool true)], args := [d] }
  | _ => none }
def fnExactHardestPellRow : OpenClaim := { program := "ytemencapmmaljaa", sum := "44dc4e8fc25f08159c42c93314c9db3d628a169910c03081eb9809b7ba9da008", func := "loop.example/g01007/laws.FnExactHardestPell", spec := "fnExactHardestPell", inPlace := ["math.sqrt"], plainKeys := false, apart := false }
def FnExactHardestPellSaid : Prop := fnExactHardestPellRow.holds Try.pinned (OpenSpec.ofChange fnExactHardestPellSpec)

/-- ITS FALSE NEIGHBOUR: 'it returns false'. Refute it at one input. -/
def fnExactHardestPellWrong : ChangeSpec := { name := "fnExactHardestPell", fn := fun _ => fun
  | [d] => { results := [.lit (.bool false)], args := [d] }
  | _ => none }
def FnExactHardestPellWrongFalsely : Prop := fnExactHardestPellRow.holds Try.pinned (OpenSpec.ofChange fnExactHardestPellWrong)

/-- 'laws.FnExactLeastPell': WHATEVER THE INPUT: true; the input reads as it did. -/
def fnExactLeastPellSpec : ChangeSpec := { name := "fnExactLeastPell", fn := fun _ => fun
  | [d] => { results := [.lit (.bool true)], args := [d] }
  | _ => none }
def fnExactLeastPellRow : OpenClaim := { program := "ytemencapmmaljaa", sum := "44dc4e8fc25f08159c42c93314c9db3d628a169910c03081eb9809b7ba9da008", func := "loop.example/g01007/laws.FnExactLeastPell", spec := "fnExactLeastPell", inPlace := ["math.sqrt"], plainKeys := false, apart := false }
def FnExactLeastPellSaid : Prop := fnExactLeastPellRow.holds Try.pinned (OpenSpec.ofChange fnExactLeastPellSpec)

/-- ITS FALSE NEIGHBOUR: 'it returns false'. Refute it at one input. -/
def fnExactLeastPellWrong : ChangeSpec := { name := "fnExactLeastPell", fn := fun _ => fun
  | [d] => { results := [.lit (.bool false)], args := [d] }
  | _ => none }
def FnExactLeastPellWrongFalsely : Prop := fnExactLeastPellRow.holds Try.pinned (OpenSpec.ofChange fnExactLeastPellWrong)

/- THE SECOND FORM. 'bulk': how many values and letters a reading holds, each counted each time it is reached (what is shared counts as often as it is met; a slice's spare places count too). A statement '..UptoSaid' is the law's where the arguments, and the package variables that the reading takes, are together of bulk at most 1048576: NARROWER than '..Said'. Prove '..Said' where nothing that the law and all that it calls make is longer than what came in: it says more and counts as full. Else prove '..UptoSaid'. A law counts once. -/
mutual
def uptoBulk {H : Type} : DataW H → Nat
  | .lit (.string bytes) => bytes.length + 1
  | .lit _ => 1
  | .nil => 1
  | .ptr d => uptoBulk d + 1
  | .slice elems spare => uptoBulkAll elems + uptoBulkAll spare + 1
  | .agg parts => uptoBulkAll parts + 1
  | .iface _ d => uptoBulk d + 1
  | .map entries => uptoBulkEntries entries + 1
  | .held _ => 1
def uptoBulkAll {H : Type} : List (DataW H) → Nat
  | [] => 0
  | d :: r => uptoBulk d + uptoBulkAll r
def uptoBulkEntries {H : Type} : List (Lit × DataW H) → Nat
  | [] => 0
  | x :: r => uptoBulkEntry x + uptoBulkEntries r
def uptoBulkEntry {H : Type} : Lit × DataW H → Nat
  | (.string bytes, d) => bytes.length + uptoBulk d + 1
  | (_, d) => uptoBulk d + 1
 end
def uptoSmall : (H : Type) → List (DataW H) → Bool := fun _ ds => decide (uptoBulkAll ds ≤ 1048576)
def OpenSpec.upto (s : _root_.Go.ChangeSpec) : _root_.Go.OpenSpec := { _root_.Go.OpenSpec.ofChange s with cond := some uptoSmall }

/-- 'laws.FnExactTermsOfSurd', WHERE WHAT IT READS IS OF BULK AT MOST 1048576: true; the input reads as it did. -/
def fnExactTermsOfSurdUptoRow : OpenClaim := { program := "ytemencapmmaljaa", sum := "44dc4e8fc25f08159c42c93314c9db3d628a169910c03081eb9809b7ba9da008", func := "loop.example/g01007/laws.FnExactTermsOfSurd", spec := "fnExactTermsOfSurd", inPlace := ["math.sqrt"], plainKeys := false, apart := false, narrowed := true }
def FnExactTermsOfSurdUptoSaid : Prop := fnExactTermsOfSurdUptoRow.holds Try.pinned (OpenSpec.upto fnExactTermsOfSurdSpec)

/-- 'laws.FnExactMulPairs', WHERE WHAT IT READS IS OF BULK AT MOST 1048576: true; the input reads as it did. -/
def fnExactMulPairsUptoRow : OpenClaim := { program := "ytemencapmmaljaa", sum := "44dc4e8fc25f08159c42c93314c9db3d628a169910c03081eb9809b7ba9da008", func := "loop.example/g01007/laws.FnExactMulPairs", spec := "fnExactMulPairs", inPlace := ["math.sqrt"], plainKeys := false, apart := false, narrowed := true }
def FnExactMulPairsUptoSaid : Prop := fnExactMulPairsUptoRow.holds Try.pinned (OpenSpec.upto fnExactMulPairsSpec)

/-- 'laws.FnExactIsPurelyPeriodic', WHERE WHAT IT READS IS OF BULK AT MOST 1048576: true; the input reads as it did. -/
def fnExactIsPurelyPeriodicUptoRow : OpenClaim := { program := "ytemencapmmaljaa", sum := "44dc4e8fc25f08159c42c93314c9db3d628a169910c03081eb9809b7ba9da008", func := "loop.example/g01007/laws.FnExactIsPurelyPeriodic", spec := "fnExactIsPurelyPeriodic", inPlace := ["math.sqrt"], plainKeys := false, apart := false, narrowed := true }
def FnExactIsPurelyPeriodicUptoSaid : Prop := fnExactIsPurelyPeriodicUptoRow.holds Try.pinned (OpenSpec.upto fnExactIsPurelyPeriodicSpec)

/-- 'laws.FnExactPeriodLength', WHERE WHAT IT READS IS OF BULK AT MOST 1048576: true; the input reads as it did. -/
def fnExactPeriodLengthUptoRow : OpenClaim := { program := "ytemencapmmaljaa", sum := "44dc4e8fc25f08159c42c93314c9db3d628a169910c03081eb9809b7ba9da008", func := "loop.example/g01007/laws.FnExactPeriodLength", spec := "fnExactPeriodLength", inPlace := ["math.sqrt"], plainKeys := false, apart := false, narrowed := true }
def FnExactPeriodLengthUptoSaid : Prop := fnExactPeriodLengthUptoRow.holds Try.pinned (OpenSpec.upto fnExactPeriodLengthSpec)

/-- 'laws.FnExactLongestRoot', WHERE WHAT IT READS IS OF BULK AT MOST 1048576: true; the input reads as it did. -/
def fnExactLongestRootUptoRow : OpenClaim := { program := "ytemencapmmaljaa", sum := "44dc4e8fc25f08159c42c93314c9db3d628a169910c03081eb9809b7ba9da008", func := "loop.example/g01007/laws.FnExactLongestRoot", spec := "fnExactLongestRoot", inPlace := ["math.sqrt"], plainKeys := false, apart := false, narrowed := true }
def FnExactLongestRootUptoSaid : Prop := fnExactLongestRootUptoRow.holds Try.pinned (OpenSpec.upto fnExactLongestRootSpec)

/-- 'laws.FnExactRootPeriod', WHERE WHAT IT READS IS OF BULK AT MOST 1048576: true; the input reads as it did. -/
def fnExactRootPeriodUptoRow : OpenClaim := { program := "ytemencapmmaljaa", sum := "44dc4e8fc25f08159c42c93314c9db3d628a169910c03081eb9809b7ba9da008", func := "loop.example/g01007/laws.FnExactRootPeriod", spec := "fnExactRootPeriod", inPlace := ["math.sqrt"], plainKeys := false, apart := false, narrowed := true }
def FnExactRootPeriodUptoSaid : Prop := fnExactRootPeriodUptoRow.holds Try.pinned (OpenSpec.upto fnExactRootPeriodSpec)

/-- 'laws.FnExactPeriodOf', WHERE WHAT IT READS IS OF BULK AT MOST 1048576: true; the input reads as it did. -/
def fnExactPeriodOfUptoRow : OpenClaim := { program := "ytemencapmmaljaa", sum := "44dc4e8fc25f08159c42c93314c9db3d628a169910c03081eb9809b7ba9da008", func := "loop.example/g01007/laws.FnExactPeriodOf", spec := "fnExactPeriodOf", inPlace := ["math.sqrt"], plainKeys := false, apart := false, narrowed := true }
def FnExactPeriodOfUptoSaid : Prop := fnExactPeriodOfUptoRow.holds Try.pinned (OpenSpec.upto fnExactPeriodOfSpec)

/-- 'laws.FnExactSameTail', WHERE WHAT IT READS IS OF BULK AT MOST 1048576: true; the input reads as it did. -/
def fnExactSameTailUptoRow : OpenClaim := { program := "ytemencapmmaljaa", sum := "44dc4e8fc25f08159c42c93314c9db3d628a169910c03081eb9809b7ba9da008", func := "loop.example/g01007/laws.FnExactSameTail", spec := "fnExactSameTail", inPlace := ["math.sqrt"], unfollowed := true, recurses := true, plainKeys := false, apart := false, narrowed := true }
def FnExactSameTailUptoSaid : Prop := fnExactSameTailUptoRow.holds Try.pinned (OpenSpec.upto fnExactSameTailSpec)

/-- 'laws.FnExactCycleOf', WHERE WHAT IT READS IS OF BULK AT MOST 1048576: true; the input reads as it did. -/
def fnExactCycleOfUptoRow : OpenClaim := { program := "ytemencapmmaljaa", sum := "44dc4e8fc25f08159c42c93314c9db3d628a169910c03081eb9809b7ba9da008", func := "loop.example/g01007/laws.FnExactCycleOf", spec := "fnExactCycleOf", inPlace := ["math.sqrt"], plainKeys := false, apart := false, narrowed := true }
def FnExactCycleOfUptoSaid : Prop := fnExactCycleOfUptoRow.holds Try.pinned (OpenSpec.upto fnExactCycleOfSpec)

/-- 'laws.FnExactHasNegative', WHERE WHAT IT READS IS OF BULK AT MOST 1048576: true; the input reads as it did. -/
def fnExactHasNegativeUptoRow : OpenClaim := { program := "ytemencapmmaljaa", sum := "44dc4e8fc25f08159c42c93314c9db3d628a169910c03081eb9809b7ba9da008", func := "loop.example/g01007/laws.FnExactHasNegative", spec := "fnExactHasNegative", inPlace := ["math.sqrt"], plainKeys := false, apart := false, narrowed := true }
def FnExactHasNegativeUptoSaid : Prop := fnExactHasNegativeUptoRow.holds Try.pinned (OpenSpec.upto fnExactHasNegativeSpec)

/-- 'laws.FnExactUnitOf', WHERE WHAT IT READS IS OF BULK AT MOST 1048576: true; the input reads as it did. -/
def fnExactUnitOfUptoRow : OpenClaim := { program := "ytemencapmmaljaa", sum := "44dc4e8fc25f08159c42c93314c9db3d628a169910c03081eb9809b7ba9da008", func := "loop.example/g01007/laws.FnExactUnitOf", spec := "fnExactUnitOf", inPlace := ["math.sqrt"], plainKeys := false, apart := false, narrowed := true }
def FnExactUnitOfUptoSaid : Prop := fnExactUnitOfUptoRow.holds Try.pinned (OpenSpec.upto fnExactUnitOfSpec)

/-- 'laws.FnExactLeastNegative', WHERE WHAT IT READS IS OF BULK AT MOST 1048576: true; the input reads as it did. -/
def fnExactLeastNegativeUptoRow : OpenClaim := { program := "ytemencapmmaljaa", sum := "44dc4e8fc25f08159c42c93314c9db3d628a169910c03081eb9809b7ba9da008", func := "loop.example/g01007/laws.FnExactLeastNegative", spec := "fnExactLeastNegative", inPlace := ["math.sqrt"], plainKeys := false, apart := false, narrowed := true }
def FnExactLeastNegativeUptoSaid : Prop := fnExactLeastNegativeUptoRow.holds Try.pinned (OpenSpec.upto fnExactLeastNegativeSpec)

/-- 'laws.FnExactHardestPell', WHERE WHAT IT READS IS OF BULK AT MOST 1048576: true; the input reads as it did. -/
def fnExactHardestPellUptoRow : OpenClaim := { program := "ytemencapmmaljaa", sum := "44dc4e8fc25f08159c42c93314c9db3d628a169910c03081eb9809b7ba9da008", func := "loop.example/g01007/laws.FnExactHardestPell", spec := "fnExactHardestPell", inPlace := ["math.sqrt"], plainKeys := false, apart := false, narrowed := true }
def FnExactHardestPellUptoSaid : Prop := fnExactHardestPellUptoRow.holds Try.pinned (OpenSpec.upto fnExactHardestPellSpec)

/-- 'laws.FnExactLeastPell', WHERE WHAT IT READS IS OF BULK AT MOST 1048576: true; the input reads as it did. -/
def fnExactLeastPellUptoRow : OpenClaim := { program := "ytemencapmmaljaa", sum := "44dc4e8fc25f08159c42c93314c9db3d628a169910c03081eb9809b7ba9da008", func := "loop.example/g01007/laws.FnExactLeastPell", spec := "fnExactLeastPell", inPlace := ["math.sqrt"], plainKeys := false, apart := false, narrowed := true }
def FnExactLeastPellUptoSaid : Prop := fnExactLeastPellUptoRow.holds Try.pinned (OpenSpec.upto fnExactLeastPellSpec)

end Rows
end Go.Proofs.Ytemencapmmaljaa
