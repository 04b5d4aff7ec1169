/-
  Surds: validity, the same plain test in both packages; the root; conversions, equality; the whole part.
-/
import Derived.Test.YtlmmpeeacjbobaaGreatDoorRoot
namespace Go.Proofs.YtlmmpeeacjbobaaGreatDoor
open Go.RowKit

/-- The number (p + root d) / q is a plain surd. -/
def okS (p d q : Int) : Bool := inB d 2 1000000 && !sqB d && inB p (-1000000) 1000000 && inB q (-1000000) 1000000 && (q != 0) && ((d - p * p).tmod q == 0)
theorem sq6 {p : Int} (h : inB p (-1000000) 1000000 = true) : 0 ≤ p * p ∧ p * p ≤ 1000000000000 := by
  have h2 := inB_iff.1 h
  have h4 : p * p = ((p.natAbs * p.natAbs : Nat) : Int) := by rw [Int.natAbs_mul_self]
  have h5 : p.natAbs * p.natAbs ≤ 1000000 * 1000000 := Nat.mul_le_mul (by omega) (by omega)
  omega
theorem okS_bd {p d q : Int} (h : okS p d q = true) : 2 ≤ d ∧ d ≤ 1000000 ∧ -1000000 ≤ p ∧ p ≤ 1000000 ∧ -1000000 ≤ q ∧ q ≤ 1000000 ∧ q ≠ 0 ∧ sqB d = false ∧ (d - p * p).tmod q = 0 := by
  simp only [okS, inB, Bool.and_eq_true, decide_eq_true_eq, bne_iff_ne, beq_iff_eq, Bool.not_eq_true'] at h
  obtain ⟨⟨⟨⟨⟨h1, h2⟩, h3⟩, h4⟩, h5⟩, h6⟩ := h
  exact ⟨h1.1, h1.2, h3.1, h3.2, h4.1, h4.2, h5, h2, h6⟩
def rootM (n : Int) : Int × Bool × Int := if inB n 0 1000000000000000000 then (((isq n.toNat : Nat) : Int), ((isq n.toNat : Nat) : Int) * ((isq n.toNat : Nat) : Int) == n, 0) else (0, false, 2)
theorem neg_div {x m : Int} (hm : 1 ≤ m) : (-x - 1) / m = -(x / m) - 1 := by
  have h1 := Int.mul_ediv_add_emod x m
  have h2 := Int.emod_nonneg x (show m ≠ 0 by omega)
  have h3 := Int.emod_lt_of_pos x (show 0 < m by omega)
  generalize x / m = a at *
  generalize x % m = b at *
  apply Int.le_antisymm
  · have : (-x - 1) / m < -a := Int.ediv_lt_of_lt_mul (by omega) (by rw [Int.neg_mul, Int.mul_comm a m]; omega)
    omega
  · apply Int.le_ediv_of_mul_le (by omega)
    rw [Int.sub_mul, Int.neg_mul, Int.mul_comm a m]; omega
theorem div_small {x m B : Int} (hm : 1 ≤ m) (h1 : -B ≤ x) (h2 : x ≤ B) : -B ≤ x / m ∧ x / m ≤ B := by
  constructor
  · apply Int.le_ediv_of_mul_le (by omega)
    rcases Int.le_total 0 B with h | h
    · have := Int.mul_le_mul_of_nonneg_left hm h
      rw [Int.neg_mul]; omega
    · have : B = 0 := by omega
      subst this; omega
  · have : x / m < B + 1 := by
      apply Int.ediv_lt_of_lt_mul (by omega)
      have := Int.mul_le_mul_of_nonneg_left hm (show 0 ≤ B + 1 by omega)
      omega
    omega
/-- The whole part of a surd. -/
def flS (p d q : Int) : Int := if q > 0 then (p + (isq d.toNat : Nat)) / q else (p + (isq d.toNat : Nat)) / q - 1
theorem isq_small (k : Nat) (h : k ≤ 1000000) : isq k ≤ 1000 := by
  have h3 := (isq_spec k (by omega)).1
  have := @sq_lt (isq k) 1001 (by omega)
  omega
theorem flS_bd {p d q : Int} (h : okS p d q = true) : -1002000 ≤ flS p d q ∧ flS p d q ≤ 1002000 := by
  obtain ⟨a1, a2, a3, a4, a5, a6, a7, _⟩ := okS_bd h
  have hi := isq_small d.toNat (by omega)
  unfold flS
  split
  · have := @div_small (p + (isq d.toNat : Nat)) q 1001000 (by omega) (by omega) (by omega); omega
  · have := @div_small (p + (isq d.toNat : Nat)) (-q) 1001000 (by omega) (by omega) (by omega)
    rw [Int.ediv_neg] at this
    omega
def flM (p d q : Int) : Int × Int := if okS p d q then (flS p d q, 0) else (0, 1)
end Go.Proofs.YtlmmpeeacjbobaaGreatDoor
