/-
  DERIVED. GIVEN WITH THE SEED: THE CARDS: each row of YtlmmpeeacjbobaaGreatDoorRows.lean that lists a variable, with what it lists TIED to the program's text (the seventh form; the later family's looks); each row that meets fmt, with fmt's text TOLD by the authors' own Lean function (tested against real Go, not proved from fmt's source: count such statements apart). THE CARD IS WHAT COUNTS. Prove the row's statement (the work); the ties are given (YtlmmpeeacjbobaaGreatDoorTie.lean); close each card by the builder's one call (the guide's Derived/Test/ToyasCard.lean, 'card_holds'). Laid BY PROGRAM, IN A SANDBOX (cutbox-door.mjs). By AI agents, Wed Nov 11 2026. No macro, syntax, notation, axiom, sorry.
-/
import Derived.Test.YtlmmpeeacjbobaaGreatDoorRows
import GoSem.ClaimSeven
namespace Go.Proofs.YtlmmpeeacjbobaaGreatDoor
namespace Rows

/-- THE TIED CARD OF 'laws.FnPaths'. -/
def fnPathsCard : Claim7 := { stood := { row := fnPathsRow, standIns := [], harness := (true, "c492323c14eb9ad7c11757c681be7058dee786371bb80770cb687e7b0e140f8e"), looks := true }, kinds := [], alts := [], laidByText := true, laidKinds := [.data, .data, .data, .data, .sentinel, .sentinel, .pinned], laidTests := true, laidLooks := .later }
def FnPathsCardSaid : Prop := Claim7.holds Tryz.pinned (.plain (OpenSpec.ofChange fnPathsSpec)) fnPathsCard

/-- THE SECOND FORM's CARD OF 'laws.FnPaths'. -/
def fnPathsUptoCard : Claim7 := { stood := { row := fnPathsUptoRow, standIns := [], harness := (true, "c492323c14eb9ad7c11757c681be7058dee786371bb80770cb687e7b0e140f8e"), looks := true }, kinds := [], alts := [], laidByText := true, laidKinds := [.data, .data, .data, .data, .sentinel, .sentinel, .pinned], laidTests := true, laidLooks := .later }
def FnPathsUptoCardSaid : Prop := Claim7.holds Tryz.pinned (.plain (OpenSpec.upto fnPathsSpec)) fnPathsUptoCard
end Rows
end Go.Proofs.YtlmmpeeacjbobaaGreatDoor
