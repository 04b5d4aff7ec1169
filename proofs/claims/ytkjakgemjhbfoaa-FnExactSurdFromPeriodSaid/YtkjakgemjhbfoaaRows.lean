/-
  No cell of these rows narrows 'for every input' (looked for: loops, veiled, ifaces, maps, wideKeys, modest, calm, conditions, laid).
  DERIVED. THE GIVEN ROWS OF THIS SEAT. 5 by the template 'for every input the law returns true; each argument reads behind the call as it read before'; 0 by the template 'total and deterministic' (their statements: YtkjakgemjhbfoaaTotals.lean).
  GIVEN WITH THE SEED: the statements are not yours to turn. If you find one false, say at which input.
  Laid BY PROGRAM, IN A SANDBOX (cutbox-rows.mjs): the forced cells as the released guide's own fill.sh prints them over the translation 1ff71c9beba7ab9f… (all of the seat's roots in one cut). By AI agents, Wed Nov 11 2026. No macro, syntax, notation, axiom, sorry.
-/
import Derived.Test.YtkjakgemjhbfoaaChecked
import GoSem.Claim
import GoSem.ClaimJoined
import GoSem.ClaimMapViews
import Derived.JoinedTies
import Derived.KernelRfl
namespace Go.Proofs.Ytkjakgemjhbfoaa
/- THE CELL 'sum', in the pinned program and in every row, IS THE sha256 OF THE DUMP (.gsa) THAT YtkjakgemjhbfoaaProg.lean LOADS. Nothing in Lean hashes anything: it is a label: what it is worth is what the hold of that sum in a sandbox is worth. -/
noncomputable def Try.pinned : Pinned := { name := "ytkjakgemjhbfoaa", sum := "1ff71c9beba7ab9f9cd5ff1f1f0f4a0bd53194320ef972b6d188c9b2fc5008ca", checked := Try.checked }
namespace Rows
def none {H : Type} : Left H := { results := [], args := [] }

/-- 'laws.FnPell': WHATEVER THE INPUT: true; the input reads as it did. -/
def fnPellSpec : ChangeSpec := { name := "fnPell", fn := fun _ => fun
  | [d] => { results := [.lit (.bool true)], args := [d] }
  | _ => none }
def fnPellRow : OpenClaim := { program := "ytkjakgemjhbfoaa", sum := "1ff71c9beba7ab9f9cd5ff1f1f0f4a0bd53194320ef972b6d188c9b2fc5008ca", func := "loop.example/g01007/laws.FnPell", spec := "fnPell", inPlace := ["math.sqrt"], plainKeys := false, apart := false }
def FnPellSaid : Prop := fnPellRow.holds Try.pinned (OpenSpec.ofChange fnPellSpec)

/-- ITS FALSE NEIGHBOUR: 'it returns false'. Refute it at one input. -/
def fnPellWrong : ChangeSpec := { name := "fnPell", fn := fun _ => fun
  | [d] => { results := [.lit (.bool false)], args := [d] }
  | _ => none }
def FnPellWrongFalsely : Prop := fnPellRow.holds Try.pinned (OpenSpec.ofChange fnPellWrong)

/-- 'laws.FnRootPeriods': WHATEVER THE INPUT: true; the input reads as it did. -/
def fnRootPeriodsSpec : ChangeSpec := { name := "fnRootPeriods", fn := fun _ => fun
  | [d1, d2] => { results := [.lit (.bool true)], args := [d1, d2] }
  | _ => none }
def fnRootPeriodsRow : OpenClaim := { program := "ytkjakgemjhbfoaa", sum := "1ff71c9beba7ab9f9cd5ff1f1f0f4a0bd53194320ef972b6d188c9b2fc5008ca", func := "loop.example/g01007/laws.FnRootPeriods", spec := "fnRootPeriods", inPlace := ["math.sqrt"], plainKeys := false, apart := false }
def FnRootPeriodsSaid : Prop := fnRootPeriodsRow.holds Try.pinned (OpenSpec.ofChange fnRootPeriodsSpec)

/-- ITS FALSE NEIGHBOUR: 'it returns false'. Refute it at one input. -/
def fnRootPeriodsWrong : ChangeSpec := { name := "fnRootPeriods", fn := fun _ => fun
  | [d1, d2] => { results := [.lit (.bool false)], args := [d1, d2] }
  | _ => none }
def FnRootPeriodsWrongFalsely : Prop := fnRootPeriodsRow.holds Try.pinned (OpenSpec.ofChange fnRootPeriodsWrong)

/-- 'laws.FnReduced': WHATEVER THE INPUT: true; the input reads as it did. -/
def fnReducedSpec : ChangeSpec := { name := "fnReduced", fn := fun _ => fun
  | [d] => { results := [.lit (.bool true)], args := [d] }
  | _ => none }
def fnReducedRow : OpenClaim := { program := "ytkjakgemjhbfoaa", sum := "1ff71c9beba7ab9f9cd5ff1f1f0f4a0bd53194320ef972b6d188c9b2fc5008ca", func := "loop.example/g01007/laws.FnReduced", spec := "fnReduced", inPlace := ["math.sqrt"], unfollowed := true, recurses := true, plainKeys := false, apart := false }
def FnReducedSaid : Prop := fnReducedRow.holds Try.pinned (OpenSpec.ofChange fnReducedSpec)

/-- ITS FALSE NEIGHBOUR: 'it returns false'. Refute it at one input. -/
def fnReducedWrong : ChangeSpec := { name := "fnReduced", fn := fun _ => fun
  | [d] => { results := [.lit (.bool false)], args := [d] }
  | _ => none }
def FnReducedWrongFalsely : Prop := fnReducedRow.holds Try.pinned (OpenSpec.ofChange fnReducedWrong)

/-- 'laws.FnExactPellIndex': WHATEVER THE INPUT: true; the input reads as it did. -/
def fnExactPellIndexSpec : ChangeSpec := { name := "fnExactPellIndex", fn := fun _ => fun
  | [d1, d2] => { results := [.lit (.bool true)], args := [d1, d2] }
  | _ => none }
def fnExactPellIndexRow : OpenClaim := { program := "ytkjakgemjhbfoaa", sum := "1ff71c9beba7ab9f9cd5ff1f1f0f4a0bd53194320ef972b6d188c9b2fc5008ca", func := "loop.example/g01007/laws.FnExactPellIndex", spec := "fnExactPellIndex", inPlace := ["math.sqrt"], plainKeys := false, apart := false }
def FnExactPellIndexSaid : Prop := fnExactPellIndexRow.holds Try.pinned (OpenSpec.ofChange fnExactPellIndexSpec)

/-- ITS FALSE NEIGHBOUR: 'it returns false'. Refute it at one input. -/
def fnExactPellIndexWrong : ChangeSpec := { name := "fnExactPellIndex", fn := fun _ => fun
  | [d1, d2] => { results := [.lit (.bool false)], args := [d1, d2] }
  | _ => none }
def FnExactPellIndexWrongFalsely : Prop := fnExactPellIndexRow.holds Try.pinned (OpenSpec.ofChange fnExactPellIndexWrong)

/-- 'laws.FnExactSurdFromPeriod': WHATEVER THE INPUT: true; the input reads as it did. -/
def fnExactSurdFromPeriodSpec : ChangeSpec := { name := "fnExactSurdFromPeriod", fn := fun _ => fun
  | [d1, d2] => { results := [.lit (.bool true)], args := [d1, d2] }
  | _ => none }
def fnExactSurdFromPeriodRow : OpenClaim := { program := "ytkjakgemjhbfoaa", sum := "1ff71c9beba7ab9f9cd5ff1f1f0f4a0bd53194320ef972b6d188c9b2fc5008ca", func := "loop.example/g01007/laws.FnExactSurdFromPeriod", spec := "fnExactSurdFromPeriod", inPlace := ["math.sqrt"], unfollowed := true, recurses := true, plainKeys := false, apart := false }
def FnExactSurdFromPeriodSaid : Prop := fnExactSurdFromPeriodRow.holds Try.pinned (OpenSpec.ofChange fnExactSurdFromPeriodSpec)

/-- ITS FALSE NEIGHBOUR: 'it returns false'. Refute it at one input. -/
def fnExactSurdFromPeriodWrong : ChangeSpec := { name := "fnExactSurdFromPeriod", fn := fun _ => fun
  | [d1, d2] => { results := [.lit (.bool false)], args := [d1, d2] }
  | _ => none }
def FnExactSurdFromPeriodWrongFalsely : Prop := fnExactSurdFromPeriodRow.holds Try.pinned (OpenSpec.ofChange fnExactSurdFromPeriodWrong)

/- THE SECOND FORM. 'bulk': how many values and letters a reading holds, each counted each time it is reached (what is shared counts as often as it is met; a slice's spare places count too). A statement '..UptoSaid' is the law's where the arguments, and the package variables that the reading takes, are together of bulk at most 1048576: NARROWER than '..Said'. Prove '..Said' where nothing that the law and all that it calls make is longer than what came in: it says more and counts as full. Else prove '..UptoSaid'. A law counts once. -/
mutual
def uptoBulk {H : Type} : DataW H → Nat
  | .lit (.string bytes) => bytes.length + 1
  | .lit _ => 1
  | .nil => 1
  | .ptr d => uptoBulk d + 1
  | .slice elems spare => uptoBulkAll elems + uptoBulkAll spare + 1
  | .agg parts => uptoBulkAll parts + 1
  | .iface _ d => uptoBulk d + 1
  | .map entries => uptoBulkEntries entries + 1
  | .held _ => 1
def uptoBulkAll {H : Type} : List (DataW H) → Nat
  | [] => 0
  | d :: r => uptoBulk d + uptoBulkAll r
def uptoBulkEntries {H : Type} : List (Lit × DataW H) → Nat
  | [] => 0
  | x :: r => uptoBulkEntry x + uptoBulkEntries r
def uptoBulkEntry {H : Type} : Lit × DataW H → Nat
  | (.string bytes, d) => bytes.length + uptoBulk d + 1
  | (_, d) => uptoBulk d + 1
 end
def uptoSmall : (H : Type) → List (DataW H) → Bool := fun _ ds => decide (uptoBulkAll ds ≤ 1048576)
def OpenSpec.upto (s : _root_.Go.ChangeSpec) : _root_.Go.OpenSpec := { _root_.Go.OpenSpec.ofChange s with cond := some uptoSmall }

/-- 'laws.FnPell', WHERE WHAT IT READS IS OF BULK AT MOST 1048576: true; the input reads as it did. -/
def fnPellUptoRow : OpenClaim := { program := "ytkjakgemjhbfoaa", sum := "1ff71c9beba7ab9f9cd5ff1f1f0f4a0bd53194320ef972b6d188c9b2fc5008ca", func := "loop.example/g01007/laws.FnPell", spec := "fnPell", inPlace := ["math.sqrt"], plainKeys := false, apart := false, narrowed := true }
def FnPellUptoSaid : Prop := fnPellUptoRow.holds Try.pinned (OpenSpec.upto fnPellSpec)

/-- 'laws.FnRootPeriods', WHERE WHAT IT READS IS OF BULK AT MOST 1048576: true; the input reads as it did. -/
def fnRootPeriodsUptoRow : OpenClaim := { program := "ytkjakgemjhbfoaa", sum := "1ff71c9beba7ab9f9cd5ff1f1f0f4a0bd53194320ef972b6d188c9b2fc5008ca", func := "loop.example/g01007/laws.FnRootPeriods", spec := "fnRootPeriods", inPlace := ["math.sqrt"], plainKeys := false, apart := false, narrowed := true }
def FnRootPeriodsUptoSaid : Prop := fnRootPeriodsUptoRow.holds Try.pinned (OpenSpec.upto fnRootPeriodsSpec)

/-- 'laws.FnReduced', WHERE WHAT IT READS IS OF BULK AT MOST 1048576: true; the input reads as it did. -/
def fnReducedUptoRow : OpenClaim := { program := "ytkjakgemjhbfoaa", sum := "1ff71c9beba7ab9f9cd5ff1f1f0f4a0bd53194320ef972b6d188c9b2fc5008ca", func := "loop.example/g01007/laws.FnReduced", spec := "fnReduced", inPlace := ["math.sqrt"], unfollowed := true, recurses := true, plainKeys := false, apart := false, narrowed := true }
def FnReducedUptoSaid : Prop := fnReducedUptoRow.holds Try.pinned (OpenSpec.upto fnReducedSpec)

/-- 'laws.FnExactPellIndex', WHERE WHAT IT READS IS OF BULK AT MOST 1048576: true; the input reads as it did. -/
def fnExactPellIndexUptoRow : OpenClaim := { program := "ytkjakgemjhbfoaa", sum := "1ff71c9beba7ab9f9cd5ff1f1f0f4a0bd53194320ef972b6d188c9b2fc5008ca", func := "loop.example/g01007/laws.FnExactPellIndex", spec := "fnExactPellIndex", inPlace := ["math.sqrt"], plainKeys := false, apart := false, narrowed := true }
def FnExactPellIndexUptoSaid : Prop := fnExactPellIndexUptoRow.holds Try.pinned (OpenSpec.upto fnExactPellIndexSpec)

/-- 'laws.FnExactSurdFromPeriod', WHERE WHAT IT READS IS OF BULK AT MOST 1048576: true; the input reads as it did. -/
def fnExactSurdFromPeriodUptoRow : OpenClaim := { program := "ytkjakgemjhbfoaa", sum := "1ff71c9beba7ab9f9cd5ff1f1f0f4a0bd53194320ef972b6d188c9b2fc5008ca", func := "loop.example/g01007/laws.FnExactSurdFromPeriod", spec := "fnExactSurdFromPeriod", inPlace := ["math.sqrt"], unfollowed := true, recurses := true, plainKeys := false, apart := false, narrowed := true }
def FnExactSurdFromPeriodUptoSaid : Prop := fnExactSurdFromPeriodUptoRow.holds Try.pinned (OpenSpec.upto fnExactSurdFromPeriodSpec)

end Rows
end Go.Proofs.Ytkjakgemjhbfoaa
