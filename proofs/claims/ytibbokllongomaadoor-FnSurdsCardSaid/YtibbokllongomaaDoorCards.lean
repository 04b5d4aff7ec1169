/-
  DERIVED. GIVEN WITH THE SEED: THE CARDS: each row of YtibbokllongomaaDoorRows.lean that lists a variable, with what it lists TIED to the program's text (the seventh form; the later family's looks); each row that meets fmt, with fmt's text TOLD by the authors' own Lean function (tested against real Go, not proved from fmt's source: count such statements apart). THE CARD IS WHAT COUNTS. Prove the row's statement (the work); the ties are given (YtibbokllongomaaDoorTie.lean); close each card by the builder's one call (the guide's Derived/Test/ToyasCard.lean, 'card_holds'). Laid BY PROGRAM, IN A SANDBOX (cutbox-door.mjs). By AI agents, Wed Nov 11 2026. No macro, syntax, notation, axiom, sorry.
-/
import Derived.Test.YtibbokllongomaaDoorRows
import GoSem.ClaimSeven
namespace Go.Proofs.YtibbokllongomaaDoor
namespace Rows

/-- THE TIED CARD OF 'laws.FnPeriods'. -/
def fnPeriodsCard : Claim7 := { stood := { row := fnPeriodsRow, standIns := [], harness := (true, "86a4393ef3eb1e4470895152fa783cab3bd033b8d69af811dd28aa4f563b719e"), looks := true }, kinds := [], alts := [], laidByText := true, laidKinds := [.data, .data, .data], laidTests := true, laidLooks := .later }
def FnPeriodsCardSaid : Prop := Claim7.holds Tryd.pinned (.plain (OpenSpec.ofChange fnPeriodsSpec)) fnPeriodsCard

/-- THE TIED CARD OF 'laws.FnNorms'. -/
def fnNormsCard : Claim7 := { stood := { row := fnNormsRow, standIns := [], harness := (true, "86a4393ef3eb1e4470895152fa783cab3bd033b8d69af811dd28aa4f563b719e"), looks := true }, kinds := [], alts := [], laidByText := true, laidKinds := [.data, .data, .data], laidTests := true, laidLooks := .later }
def FnNormsCardSaid : Prop := Claim7.holds Tryd.pinned (.plain (OpenSpec.ofChange fnNormsSpec)) fnNormsCard

/-- THE TIED CARD OF 'laws.FnExactPeriodText'. -/
def fnExactPeriodTextCard : Claim7 := { stood := { row := fnExactPeriodTextRow, standIns := [], harness := (true, "86a4393ef3eb1e4470895152fa783cab3bd033b8d69af811dd28aa4f563b719e"), looks := true }, kinds := [], alts := [], laidByText := true, laidKinds := [.data, .data, .data], laidTests := true, laidLooks := .later }
def FnExactPeriodTextCardSaid : Prop := Claim7.holds Tryd.pinned (.plain (OpenSpec.ofChange fnExactPeriodTextSpec)) fnExactPeriodTextCard

/-- THE TIED CARD OF 'laws.FnSurds'. -/
def fnSurdsCard : Claim7 := { stood := { row := fnSurdsRow, standIns := [], harness := (true, "86a4393ef3eb1e4470895152fa783cab3bd033b8d69af811dd28aa4f563b719e"), looks := true }, kinds := [], alts := [], laidByText := true, laidKinds := [.data, .data, .data, .sentinel, .sentinel], laidTests := true, laidLooks := .later }
def FnSurdsCardSaid : Prop := Claim7.holds Tryd.pinned (.plain (OpenSpec.ofChange fnSurdsSpec)) fnSurdsCard

/-- THE TIED CARD OF 'laws.FnExactReadSurd'. -/
def fnExactReadSurdCard : Claim7 := { stood := { row := fnExactReadSurdRow, standIns := [], harness := (true, "86a4393ef3eb1e4470895152fa783cab3bd033b8d69af811dd28aa4f563b719e"), looks := true }, kinds := [], alts := [], laidByText := true, laidKinds := [.data, .data, .data, .sentinel, .sentinel], laidTests := true, laidLooks := .later }
def FnExactReadSurdCardSaid : Prop := Claim7.holds Tryd.pinned (.plain (OpenSpec.ofChange fnExactReadSurdSpec)) fnExactReadSurdCard

/-- THE SECOND FORM's CARD OF 'laws.FnPeriods'. -/
def fnPeriodsUptoCard : Claim7 := { stood := { row := fnPeriodsUptoRow, standIns := [], harness := (true, "86a4393ef3eb1e4470895152fa783cab3bd033b8d69af811dd28aa4f563b719e"), looks := true }, kinds := [], alts := [], laidByText := true, laidKinds := [.data, .data, .data], laidTests := true, laidLooks := .later }
def FnPeriodsUptoCardSaid : Prop := Claim7.holds Tryd.pinned (.plain (OpenSpec.upto fnPeriodsSpec)) fnPeriodsUptoCard

/-- THE SECOND FORM's CARD OF 'laws.FnNorms'. -/
def fnNormsUptoCard : Claim7 := { stood := { row := fnNormsUptoRow, standIns := [], harness := (true, "86a4393ef3eb1e4470895152fa783cab3bd033b8d69af811dd28aa4f563b719e"), looks := true }, kinds := [], alts := [], laidByText := true, laidKinds := [.data, .data, .data], laidTests := true, laidLooks := .later }
def FnNormsUptoCardSaid : Prop := Claim7.holds Tryd.pinned (.plain (OpenSpec.upto fnNormsSpec)) fnNormsUptoCard

/-- THE SECOND FORM's CARD OF 'laws.FnExactPeriodText'. -/
def fnExactPeriodTextUptoCard : Claim7 := { stood := { row := fnExactPeriodTextUptoRow, standIns := [], harness := (true, "86a4393ef3eb1e4470895152fa783cab3bd033b8d69af811dd28aa4f563b719e"), looks := true }, kinds := [], alts := [], laidByText := true, laidKinds := [.data, .data, .data], laidTests := true, laidLooks := .later }
def FnExactPeriodTextUptoCardSaid : Prop := Claim7.holds Tryd.pinned (.plain (OpenSpec.upto fnExactPeriodTextSpec)) fnExactPeriodTextUptoCard

/-- THE SECOND FORM's CARD OF 'laws.FnSurds'. -/
def fnSurdsUptoCard : Claim7 := { stood := { row := fnSurdsUptoRow, standIns := [], harness := (true, "86a4393ef3eb1e4470895152fa783cab3bd033b8d69af811dd28aa4f563b719e"), looks := true }, kinds := [], alts := [], laidByText := true, laidKinds := [.data, .data, .data, .sentinel, .sentinel], laidTests := true, laidLooks := .later }
def FnSurdsUptoCardSaid : Prop := Claim7.holds Tryd.pinned (.plain (OpenSpec.upto fnSurdsSpec)) fnSurdsUptoCard

/-- THE SECOND FORM's CARD OF 'laws.FnExactReadSurd'. -/
def fnExactReadSurdUptoCard : Claim7 := { stood := { row := fnExactReadSurdUptoRow, standIns := [], harness := (true, "86a4393ef3eb1e4470895152fa783cab3bd033b8d69af811dd28aa4f563b719e"), looks := true }, kinds := [], alts := [], laidByText := true, laidKinds := [.data, .data, .data, .sentinel, .sentinel], laidTests := true, laidLooks := .later }
def FnExactReadSurdUptoCardSaid : Prop := Claim7.holds Tryd.pinned (.plain (OpenSpec.upto fnExactReadSurdSpec)) fnExactReadSurdUptoCard
end Rows
end Go.Proofs.YtibbokllongomaaDoor
