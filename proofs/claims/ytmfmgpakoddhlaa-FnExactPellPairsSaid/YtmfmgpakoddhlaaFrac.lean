/-
  Contracts of the functions on fractions: validity, lowest terms, comparisons, neighbours.
-/
import Derived.Test.YtmfmgpakoddhlaaBase
namespace Go.Proofs.Ytmfmgpakoddhlaa
open Go.RowKit

/-- The number num / den is a plain fraction. -/
def okF (n d : Int) : Bool := inB d 1 1000000000 && inB n (-1000000000) 1000000000 && (((Int.gcd n d : Nat) : Int) == 1)
theorem okF_iff {n d : Int} : okF n d = true ↔ (1 ≤ d ∧ d ≤ 1000000000) ∧ (-1000000000 ≤ n ∧ n ≤ 1000000000) ∧ Int.gcd n d = 1 := by
  simp only [okF, inB, and_assoc, Bool.and_eq_true, decide_eq_true_eq, beq_iff_eq]
  omega

theorem mul_bd {a b A B : Int} (h1 : -A ≤ a) (h2 : a ≤ A) (h3 : -B ≤ b) (h4 : b ≤ B) : -(A * B) ≤ a * b ∧ a * b ≤ A * B := by
  have e : (a * b).natAbs ≤ A.natAbs * B.natAbs := by
    rw [Int.natAbs_mul]
    exact Nat.mul_le_mul (by omega) (by omega)
  have e2 : ((A.natAbs * B.natAbs : Nat) : Int) = A * B := by
    rw [Int.natCast_mul, Int.natAbs_of_nonneg (by omega), Int.natAbs_of_nonneg (by omega)]
  omega

/-- num / den in lowest terms: numerator, denominator, code. -/
def plN (n d : Int) : Int := if d < 0 then -(n / ((Int.gcd n d : Nat) : Int)) else n / ((Int.gcd n d : Nat) : Int)
def plD (n d : Int) : Int := if d < 0 then -(d / ((Int.gcd n d : Nat) : Int)) else d / ((Int.gcd n d : Nat) : Int)
def plain (n d : Int) : Int × Int × Int := if okF (plN n d) (plD n d) then (plN n d, plD n d, 0) else (0, 0, 5)
theorem gcd_pos_of {n d : Int} (hd : d ≠ 0) : 1 ≤ ((Int.gcd n d : Nat) : Int) := by
  have : 0 < Int.gcd n d := Int.gcd_pos_of_ne_zero_right n hd
  omega
theorem gcd_le_of {n d : Int} (hd : d ≠ 0) : ((Int.gcd n d : Nat) : Int) ≤ d.natAbs := by
  have : Int.gcd n d ≤ d.natAbs := Nat.le_of_dvd (by omega) (Nat.gcd_dvd_right _ _)
  omega
theorem div_gcd_bd {n g : Int} (hg : 1 ≤ g) (h : g ∣ n) : n.tdiv g = n / g ∧ n.tdiv (-g) = -(n / g) ∧ -n.natAbs ≤ n / g ∧ n / g ≤ n.natAbs := by
  obtain ⟨k, rfl⟩ := h
  have e1 : g * k / g = k := Int.mul_ediv_cancel_left _ (by omega)
  have e2 : (g * k).tdiv g = k := Int.mul_tdiv_cancel_left _ (by omega)
  have e3 : (g * k).tdiv (-g) = -k := by rw [Int.tdiv_neg, e2]
  have e4 : k.natAbs ≤ (g * k).natAbs := by
    rw [Int.natAbs_mul]
    exact Nat.le_mul_of_pos_left _ (by omega)
  rw [e1, e2, e3]
  omega

end Go.Proofs.Ytmfmgpakoddhlaa
