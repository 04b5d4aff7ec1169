/-
  Which runs are a path, as a plain function.
-/
import Derived.Test.YtlmmpeeacjbobaaGreatDoorInts
namespace Go.Proofs.YtlmmpeeacjbobaaGreatDoor
open Go.RowKit

/-- Which runs are a path. -/
def lowR (n t : Nat) : Int := if t = 0 ∧ 1 < n then 0 else 1
def okR (rs : List Int) : Bool := decide (rs.length ≤ 60) && decide (∀ t, t < rs.length → inB (rs.getD t 0) (lowR rs.length t) 1000000000 = true)
theorem ok_facts {rs : List Int} (h : okR rs = true) : rs.length ≤ 60 ∧ ∀ (t : Nat) (z : Int), rs[t]? = some z → 0 ≤ z ∧ z ≤ 1000000000 := by
  unfold okR at h
  rw [Bool.and_eq_true, decide_eq_true_eq, decide_eq_true_eq] at h
  refine ⟨h.1, fun t z hz => ?_⟩
  have hl : t < rs.length := by
    rcases Nat.lt_or_ge t rs.length with g | g
    · exact g
    · rw [List.getElem?_eq_none g] at hz; cases hz
  have h2 := inB_iff.1 (h.2 t hl)
  rw [List.getD_eq_getElem?_getD, hz] at h2
  simp only [Option.getD_some] at h2
  unfold lowR at h2
  split at h2 <;> omega
end Go.Proofs.YtlmmpeeacjbobaaGreatDoor
