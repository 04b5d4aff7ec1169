/-
  DERIVED. GIVEN WITH THE SEED: THE CARDS: each row of YtkjakgemjhbfoaaDoorRows.lean that lists a variable, with what it lists TIED to the program's text (the seventh form; the later family's looks); each row that meets fmt, with fmt's text TOLD by the authors' own Lean function (tested against real Go, not proved from fmt's source: count such statements apart). THE CARD IS WHAT COUNTS. Prove the row's statement (the work); the ties are given (YtkjakgemjhbfoaaDoorTie.lean); close each card by the builder's one call (the guide's Derived/Test/ToyasCard.lean, 'card_holds'). Laid BY PROGRAM, IN A SANDBOX (cutbox-door.mjs). By AI agents, Wed Nov 11 2026. No macro, syntax, notation, axiom, sorry.
-/
import Derived.Test.YtkjakgemjhbfoaaDoorRows
import GoSem.ClaimSeven
namespace Go.Proofs.YtkjakgemjhbfoaaDoor
namespace Rows

/-- THE TIED CARD OF 'laws.FnPeriods'. -/
def fnPeriodsCard : Claim7 := { stood := { row := fnPeriodsRow, standIns := [], harness := (true, "4f76ad5881e2963ad8d18166583f46acba5092dc901cb4363d504d4197f3fd06"), looks := true }, kinds := [], alts := [], laidByText := true, laidKinds := [.data, .data, .data], laidTests := true, laidLooks := .later }
def FnPeriodsCardSaid : Prop := Claim7.holds Tryd.pinned (.plain (OpenSpec.ofChange fnPeriodsSpec)) fnPeriodsCard

/-- THE TIED CARD OF 'laws.FnNorms'. -/
def fnNormsCard : Claim7 := { stood := { row := fnNormsRow, standIns := [], harness := (true, "4f76ad5881e2963ad8d18166583f46acba5092dc901cb4363d504d4197f3fd06"), looks := true }, kinds := [], alts := [], laidByText := true, laidKinds := [.data, .data, .data], laidTests := true, laidLooks := .later }
def FnNormsCardSaid : Prop := Claim7.holds Tryd.pinned (.plain (OpenSpec.ofChange fnNormsSpec)) fnNormsCard

/-- THE TIED CARD OF 'laws.FnExactPairText'. -/
def fnExactPairTextCard : Claim7 := { stood := { row := fnExactPairTextRow, standIns := [], harness := (true, "4f76ad5881e2963ad8d18166583f46acba5092dc901cb4363d504d4197f3fd06"), looks := true }, kinds := [], alts := [], laidByText := true, laidKinds := [.data, .data, .data], laidTests := true, laidLooks := .later }
def FnExactPairTextCardSaid : Prop := Claim7.holds Tryd.pinned (.plain (OpenSpec.ofChange fnExactPairTextSpec)) fnExactPairTextCard

/-- THE TIED CARD OF 'laws.FnExactSurdText'. -/
def fnExactSurdTextCard : Claim7 := { stood := { row := fnExactSurdTextRow, standIns := [], harness := (true, "4f76ad5881e2963ad8d18166583f46acba5092dc901cb4363d504d4197f3fd06"), looks := true }, kinds := [], alts := [], laidByText := true, laidKinds := [.data, .data, .data], laidTests := true, laidLooks := .later }
def FnExactSurdTextCardSaid : Prop := Claim7.holds Tryd.pinned (.plain (OpenSpec.ofChange fnExactSurdTextSpec)) fnExactSurdTextCard

/-- THE TIED CARD OF 'laws.FnExactPeriodText'. -/
def fnExactPeriodTextCard : Claim7 := { stood := { row := fnExactPeriodTextRow, standIns := [], harness := (true, "4f76ad5881e2963ad8d18166583f46acba5092dc901cb4363d504d4197f3fd06"), looks := true }, kinds := [], alts := [], laidByText := true, laidKinds := [.data, .data, .data], laidTests := true, laidLooks := .later }
def FnExactPeriodTextCardSaid : Prop := Claim7.holds Tryd.pinned (.plain (OpenSpec.ofChange fnExactPeriodTextSpec)) fnExactPeriodTextCard

/-- THE TIED CARD OF 'laws.FnSurds'. -/
def fnSurdsCard : Claim7 := { stood := { row := fnSurdsRow, standIns := [], harness := (true, "4f76ad5881e2963ad8d18166583f46acba5092dc901cb4363d504d4197f3fd06"), looks := true }, kinds := [], alts := [], laidByText := true, laidKinds := [.data, .data, .data, .sentinel, .sentinel], laidTests := true, laidLooks := .later }
def FnSurdsCardSaid : Prop := Claim7.holds Tryd.pinned (.plain (OpenSpec.ofChange fnSurdsSpec)) fnSurdsCard

/-- THE TIED CARD OF 'laws.FnExactReadSurd'. -/
def fnExactReadSurdCard : Claim7 := { stood := { row := fnExactReadSurdRow, standIns := [], harness := (true, "4f76ad5881e2963ad8d18166583f46acba5092dc901cb4363d504d4197f3fd06"), looks := true }, kinds := [], alts := [], laidByText := true, laidKinds := [.data, .data, .data, .sentinel, .sentinel], laidTests := true, laidLooks := .later }
def FnExactReadSurdCardSaid : Prop := Claim7.holds Tryd.pinned (.plain (OpenSpec.ofChange fnExactReadSurdSpec)) fnExactReadSurdCard

/-- THE SECOND FORM's CARD OF 'laws.FnPeriods'. -/
def fnPeriodsUptoCard : Claim7 := { stood := { row := fnPeriodsUptoRow, standIns := [], harness := (true, "4f76ad5881e2963ad8d18166583f46acba5092dc901cb4363d504d4197f3fd06"), looks := true }, kinds := [], alts := [], laidByText := true, laidKinds := [.data, .data, .data], laidTests := true, laidLooks := .later }
def FnPeriodsUptoCardSaid : Prop := Claim7.holds Tryd.pinned (.plain (OpenSpec.upto fnPeriodsSpec)) fnPeriodsUptoCard

/-- THE SECOND FORM's CARD OF 'laws.FnNorms'. -/
def fnNormsUptoCard : Claim7 := { stood := { row := fnNormsUptoRow, standIns := [], harness := (true, "4f76ad5881e2963ad8d18166583f46acba5092dc901cb4363d504d4197f3fd06"), looks := true }, kinds := [], alts := [], laidByText := true, laidKinds := [.data, .data, .data], laidTests := true, laidLooks := .later }
def FnNormsUptoCardSaid : Prop := Claim7.holds Tryd.pinned (.plain (OpenSpec.upto fnNormsSpec)) fnNormsUptoCard

/-- THE SECOND FORM's CARD OF 'laws.FnExactPairText'. -/
def fnExactPairTextUptoCard : Claim7 := { stood := { row := fnExactPairTextUptoRow, standIns := [], harness := (true, "4f76ad5881e2963ad8d18166583f46acba5092dc901cb4363d504d4197f3fd06"), looks := true }, kinds := [], alts := [], laidByText := true, laidKinds := [.data, .data, .data], laidTests := true, laidLooks := .later }
def FnExactPairTextUptoCardSaid : Prop := Claim7.holds Tryd.pinned (.plain (OpenSpec.upto fnExactPairTextSpec)) fnExactPairTextUptoCard

/-- THE SECOND FORM's CARD OF 'laws.FnExactSurdText'. -/
def fnExactSurdTextUptoCard : Claim7 := { stood := { row := fnExactSurdTextUptoRow, standIns := [], harness := (true, "4f76ad5881e2963ad8d18166583f46acba5092dc901cb4363d504d4197f3fd06"), looks := true }, kinds := [], alts := [], laidByText := true, laidKinds := [.data, .data, .data], laidTests := true, laidLooks := .later }
def FnExactSurdTextUptoCardSaid : Prop := Claim7.holds Tryd.pinned (.plain (OpenSpec.upto fnExactSurdTextSpec)) fnExactSurdTextUptoCard

/-- THE SECOND FORM's CARD OF 'laws.FnExactPeriodText'. -/
def fnExactPeriodTextUptoCard : Claim7 := { stood := { row := fnExactPeriodTextUptoRow, standIns := [], harness := (true, "4f76ad5881e2963ad8d18166583f46acba5092dc901cb4363d504d4197f3fd06"), looks := true }, kinds := [], alts := [], laidByText := true, laidKinds := [.data, .data, .data], laidTests := true, laidLooks := .later }
def FnExactPeriodTextUptoCardSaid : Prop := Claim7.holds Tryd.pinned (.plain (OpenSpec.upto fnExactPeriodTextSpec)) fnExactPeriodTextUptoCard

/-- THE SECOND FORM's CARD OF 'laws.FnSurds'. -/
def fnSurdsUptoCard : Claim7 := { stood := { row := fnSurdsUptoRow, standIns := [], harness := (true, "4f76ad5881e2963ad8d18166583f46acba5092dc901cb4363d504d4197f3fd06"), looks := true }, kinds := [], alts := [], laidByText := true, laidKinds := [.data, .data, .data, .sentinel, .sentinel], laidTests := true, laidLooks := .later }
def FnSurdsUptoCardSaid : Prop := Claim7.holds Tryd.pinned (.plain (OpenSpec.upto fnSurdsSpec)) fnSurdsUptoCard

/-- THE SECOND FORM's CARD OF 'laws.FnExactReadSurd'. -/
def fnExactReadSurdUptoCard : Claim7 := { stood := { row := fnExactReadSurdUptoRow, standIns := [], harness := (true, "4f76ad5881e2963ad8d18166583f46acba5092dc901cb4363d504d4197f3fd06"), looks := true }, kinds := [], alts := [], laidByText := true, laidKinds := [.data, .data, .data, .sentinel, .sentinel], laidTests := true, laidLooks := .later }
def FnExactReadSurdUptoCardSaid : Prop := Claim7.holds Tryd.pinned (.plain (OpenSpec.upto fnExactReadSurdSpec)) fnExactReadSurdUptoCard
end Rows
end Go.Proofs.YtkjakgemjhbfoaaDoor
