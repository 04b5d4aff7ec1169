/-
  Contracts of the functions on two fractions: comparison, neighbours, touching circles; the radius of a circle.
-/
import Derived.Test.YtlmmpeeacjbobaaGreatDoorFrac
namespace Go.Proofs.YtlmmpeeacjbobaaGreatDoor
open Go.RowKit

theorem okF_bd {n d : Int} (h : okF n d = true) : 1 ≤ d ∧ d ≤ 1000000000 ∧ -1000000000 ≤ n ∧ n ≤ 1000000000 := by
  have := okF_iff.1 h
  omega
theorem mul_bd9 {a b : Int} (h1 : -1000000000 ≤ a) (h2 : a ≤ 1000000000) (h3 : -1000000000 ≤ b) (h4 : b ≤ 1000000000) : -1000000000000000000 ≤ a * b ∧ a * b ≤ 1000000000000000000 := by
  have := mul_bd (A := 1000000000) (B := 1000000000) (a := a) (b := b) (by omega) h2 (by omega) h4
  omega

/-- The sign of a / b - c / d, for positive denominators. -/
def sgnF (a b c d : Int) : Int := if a * d < c * b then -1 else if c * b < a * d then 1 else 0
/-- The two fractions are neighbours. -/
def nbF (a b c d : Int) : Bool := (((a * d - c * b).natAbs : Nat) : Int) == 1
/-- The code of two fractions. -/
def twoC (a b c d : Int) : Int := if okF a b && okF c d then 0 else 1

/-- CircleOf. -/
def circM (n d : Int) : Int × Int × Int := if okF n d then (if okF 1 (2 * d * d) then (1, 2 * d * d, 0) else (0, 0, 5)) else (0, 0, 1)
end Go.Proofs.YtlmmpeeacjbobaaGreatDoor
