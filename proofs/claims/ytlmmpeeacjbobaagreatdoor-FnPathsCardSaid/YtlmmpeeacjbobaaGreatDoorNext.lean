/-
  The next surd of an expansion, both packages.
-/
import Derived.Test.YtlmmpeeacjbobaaGreatDoorSurd
import Derived.Deep.RegionWith
namespace Go.Proofs.YtlmmpeeacjbobaaGreatDoor
open Go.RowKit

def hdS (p d q : Int) : Int := flS p d q * q - p
def tlS (p d q : Int) : Int := (d - hdS p d q * hdS p d q).tdiv q
/-- The head of the next surd is the root less a remainder: it stays small. -/
theorem hdS_bd {p d q : Int} (h : okS p d q = true) : -1002000 ≤ hdS p d q ∧ hdS p d q ≤ 1002000 := by
  obtain ⟨a1, a2, a3, a4, a5, a6, a7, _⟩ := okS_bd h
  have hi := isq_small d.toNat (by omega)
  unfold hdS flS
  generalize isq d.toNat = k at *
  have e1 := Int.mul_ediv_add_emod (p + (k : Int)) q
  have e2 := Int.emod_nonneg (p + (k : Int)) a7
  by_cases hq : q > 0
  · rw [if_pos hq]
    have e3 := Int.emod_lt_of_pos (p + (k : Int)) (show 0 < q by omega)
    rw [Int.mul_comm]
    omega
  · rw [if_neg hq]
    have e3 := Int.emod_lt_of_pos (p + (k : Int)) (show 0 < -q by omega)
    rw [Int.emod_neg] at e3
    rw [Int.sub_mul, Int.mul_comm]
    omega
theorem tlS_bd {p d q : Int} (h : okS p d q = true) : (0 ≤ hdS p d q * hdS p d q ∧ hdS p d q * hdS p d q ≤ 1010000000000) ∧ -9000000000000000000 ≤ tlS p d q ∧ tlS p d q ≤ 9000000000000000000 := by
  obtain ⟨a1, a2, a3, a4, a5, a6, a7, _⟩ := okS_bd h
  obtain ⟨b1, b2⟩ := hdS_bd h
  unfold tlS
  generalize hdS p d q = x at *
  have h4 : x * x = ((x.natAbs * x.natAbs : Nat) : Int) := by rw [Int.natAbs_mul_self]
  have h5 : x.natAbs * x.natAbs ≤ 1002000 * 1002000 := Nat.mul_le_mul (by omega) (by omega)
  exact ⟨by omega, div_between (by omega) (by omega)⟩
theorem ok_head {p d q : Int} (h : inB p (-1000000) 1000000 = false) : okS p d q = false := by simp [okS, h]
theorem fl_mul {p d q : Int} (h : okS p d q = true) : -2000000000000 ≤ flS p d q * q ∧ flS p d q * q ≤ 2000000000000 := by
  obtain ⟨a1, a2, a3, a4, a5, a6, a7, _⟩ := okS_bd h
  have := hdS_bd h
  unfold hdS at this
  omega
def nxM (p d q : Int) : Int × (Int × Int × Int) × Int :=
  if okS p d q then (if okS (hdS p d q) d (tlS p d q) then (flS p d q, (hdS p d q, d, tlS p d q), 0) else (0, (0, 0, 0), 5)) else (0, (0, 0, 0), 1)
end Go.Proofs.YtlmmpeeacjbobaaGreatDoor
