/-
  DERIVED. GIVEN WITH THE SEED: THE CARDS: each row of YtlmmpeeacjbobaaDoorRows.lean that lists a variable, with what it lists TIED to the program's text (the seventh form; the later family's looks); each row that meets fmt, with fmt's text TOLD by the authors' own Lean function (tested against real Go, not proved from fmt's source: count such statements apart). THE CARD IS WHAT COUNTS. Prove the row's statement (the work); the ties are given (YtlmmpeeacjbobaaDoorTie.lean); close each card by the builder's one call (the guide's Derived/Test/ToyasCard.lean, 'card_holds'). Laid BY PROGRAM, IN A SANDBOX (cutbox-door.mjs). By AI agents, Wed Nov 11 2026. No macro, syntax, notation, axiom, sorry.
-/
import Derived.Test.YtlmmpeeacjbobaaDoorRows
import GoSem.ClaimSeven
namespace Go.Proofs.YtlmmpeeacjbobaaDoor
namespace Rows

/-- THE TIED CARD OF 'laws.FnExactPathText'. -/
def fnExactPathTextCard : Claim7 := { stood := { row := fnExactPathTextRow, standIns := [], harness := (true, "1184fd8dfb490311007aa6ae6da18cc556f08ccf36171bc1ee3528301e56e86a"), looks := true }, kinds := [], alts := [], laidByText := true, laidKinds := [.data, .data, .data], laidTests := true, laidLooks := .later }
def FnExactPathTextCardSaid : Prop := Claim7.holds Tryd.pinned (.plain (OpenSpec.ofChange fnExactPathTextSpec)) fnExactPathTextCard

/-- THE TIED CARD OF 'laws.FnExactFareyLines'. -/
def fnExactFareyLinesCard : Claim7 := { stood := { row := fnExactFareyLinesRow, standIns := [], harness := (true, "1184fd8dfb490311007aa6ae6da18cc556f08ccf36171bc1ee3528301e56e86a"), looks := true }, kinds := [], alts := [], laidByText := true, laidKinds := [.data, .data, .data], laidTests := true, laidLooks := .later }
def FnExactFareyLinesCardSaid : Prop := Claim7.holds Tryd.pinned (.plain (OpenSpec.ofChange fnExactFareyLinesSpec)) fnExactFareyLinesCard

/-- THE TIED CARD OF 'laws.FnFarey'. -/
def fnFareyCard : Claim7 := { stood := { row := fnFareyRow, standIns := [], harness := (true, "1184fd8dfb490311007aa6ae6da18cc556f08ccf36171bc1ee3528301e56e86a"), looks := true }, kinds := [], alts := [], laidByText := true, laidKinds := [.data, .data, .data], laidTests := true, laidLooks := .later }
def FnFareyCardSaid : Prop := Claim7.holds Tryd.pinned (.plain (OpenSpec.ofChange fnFareySpec)) fnFareyCard

/-- THE TIED CARD OF 'laws.FnExactReadPath'. -/
def fnExactReadPathCard : Claim7 := { stood := { row := fnExactReadPathRow, standIns := [], harness := (true, "1184fd8dfb490311007aa6ae6da18cc556f08ccf36171bc1ee3528301e56e86a"), looks := true }, kinds := [], alts := [], laidByText := true, laidKinds := [.data, .data, .data, .data, .sentinel, .sentinel, .pinned], laidTests := true, laidLooks := .later }
def FnExactReadPathCardSaid : Prop := Claim7.holds Tryd.pinned (.plain (OpenSpec.ofChange fnExactReadPathSpec)) fnExactReadPathCard

/-- THE SECOND FORM's CARD OF 'laws.FnExactPathText'. -/
def fnExactPathTextUptoCard : Claim7 := { stood := { row := fnExactPathTextUptoRow, standIns := [], harness := (true, "1184fd8dfb490311007aa6ae6da18cc556f08ccf36171bc1ee3528301e56e86a"), looks := true }, kinds := [], alts := [], laidByText := true, laidKinds := [.data, .data, .data], laidTests := true, laidLooks := .later }
def FnExactPathTextUptoCardSaid : Prop := Claim7.holds Tryd.pinned (.plain (OpenSpec.upto fnExactPathTextSpec)) fnExactPathTextUptoCard

/-- THE SECOND FORM's CARD OF 'laws.FnExactFareyLines'. -/
def fnExactFareyLinesUptoCard : Claim7 := { stood := { row := fnExactFareyLinesUptoRow, standIns := [], harness := (true, "1184fd8dfb490311007aa6ae6da18cc556f08ccf36171bc1ee3528301e56e86a"), looks := true }, kinds := [], alts := [], laidByText := true, laidKinds := [.data, .data, .data], laidTests := true, laidLooks := .later }
def FnExactFareyLinesUptoCardSaid : Prop := Claim7.holds Tryd.pinned (.plain (OpenSpec.upto fnExactFareyLinesSpec)) fnExactFareyLinesUptoCard

/-- THE SECOND FORM's CARD OF 'laws.FnFarey'. -/
def fnFareyUptoCard : Claim7 := { stood := { row := fnFareyUptoRow, standIns := [], harness := (true, "1184fd8dfb490311007aa6ae6da18cc556f08ccf36171bc1ee3528301e56e86a"), looks := true }, kinds := [], alts := [], laidByText := true, laidKinds := [.data, .data, .data], laidTests := true, laidLooks := .later }
def FnFareyUptoCardSaid : Prop := Claim7.holds Tryd.pinned (.plain (OpenSpec.upto fnFareySpec)) fnFareyUptoCard

/-- THE SECOND FORM's CARD OF 'laws.FnExactReadPath'. -/
def fnExactReadPathUptoCard : Claim7 := { stood := { row := fnExactReadPathUptoRow, standIns := [], harness := (true, "1184fd8dfb490311007aa6ae6da18cc556f08ccf36171bc1ee3528301e56e86a"), looks := true }, kinds := [], alts := [], laidByText := true, laidKinds := [.data, .data, .data, .data, .sentinel, .sentinel, .pinned], laidTests := true, laidLooks := .later }
def FnExactReadPathUptoCardSaid : Prop := Claim7.holds Tryd.pinned (.plain (OpenSpec.upto fnExactReadPathSpec)) fnExactReadPathUptoCard
end Rows
end Go.Proofs.YtlmmpeeacjbobaaDoor
