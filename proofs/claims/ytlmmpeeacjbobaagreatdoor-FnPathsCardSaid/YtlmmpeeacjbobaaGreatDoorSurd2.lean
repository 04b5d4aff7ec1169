/-
  Surds: conjugates, comparison with a fraction, reduced surds.
-/
import Derived.Test.YtlmmpeeacjbobaaGreatDoorSurd
import Derived.Test.YtlmmpeeacjbobaaGreatDoorFrac
namespace Go.Proofs.YtlmmpeeacjbobaaGreatDoor
open Go.RowKit

def conjM (p d q : Int) : Int × Int × Int × Int := if okS p d q then (-p, d, -q, 0) else (0, 0, 0, 1)
/-- The surd lies below the fraction n / m. -/
def lessV (p d q n m : Int) : Bool := decide (n * q - p * m > 0) && decide (n * q - p * m > ((isq (d * m * m).toNat : Nat) : Int))
def lessB (p d q n m : Int) : Bool := if q > 0 then lessV p d q n m else !lessV p d q n m
def cmpV (p d q n m : Int) : Int := if lessB p d q n m then -1 else 1
theorem cmpV_t {p d q n m : Int} (h : lessB p d q n m = true) : cmpV p d q n m = -1 := by unfold cmpV; rw [h]; rfl
theorem cmpV_f {p d q n m : Int} (h : lessB p d q n m = false) : cmpV p d q n m = 1 := by unfold cmpV; rw [h]; rfl
/-- What the comparison asks of its arguments. -/
structure CmpIn (p d q n m : Int) : Prop where
  d0 : 0 ≤ d
  d1 : d ≤ 1000000
  p0 : -1000000 ≤ p
  p1 : p ≤ 1000000
  q0 : -1000000 ≤ q
  q1 : q ≤ 1000000
  n0 : -1000000 ≤ n
  n1 : n ≤ 1000000
  m0 : 1 ≤ m
  m1 : m ≤ 1000000
theorem CmpIn.facts {p d q n m : Int} (h : CmpIn p d q n m) : (-1000000000000 ≤ n * q ∧ n * q ≤ 1000000000000) ∧ (-1000000000000 ≤ p * m ∧ p * m ≤ 1000000000000) ∧ m * p = p * m ∧ (0 ≤ d * m ∧ d * m ≤ 1000000000000) ∧ (0 ≤ d * m * m ∧ d * m * m ≤ 1000000000000000000) ∧ (0 ≤ m * m ∧ m * m ≤ 1000000000000) ∧ m * m * d = d * m * m := by
  obtain ⟨d0, d1, p0, p1, q0, q1, n0, n1, m0, m1⟩ := h
  have a1 := @mul_bd n q 1000000 1000000 (by omega) (by omega) (by omega) (by omega)
  have a2 := @mul_bd p m 1000000 1000000 (by omega) (by omega) (by omega) (by omega)
  have a3 := @mul_bd d m 1000000 1000000 (by omega) (by omega) (by omega) (by omega)
  have a4 := Int.mul_nonneg d0 (show 0 ≤ m by omega)
  have a5 := Int.mul_nonneg a4 (show 0 ≤ m by omega)
  have a6 := @mul_bd (d * m) m 1000000000000 1000000 (by omega) (by omega) (by omega) (by omega)
  have a7 := @mul_bd m m 1000000 1000000 (by omega) (by omega) (by omega) (by omega)
  have a8 := Int.mul_nonneg (show 0 ≤ m by omega) (show 0 ≤ m by omega)
  refine ⟨⟨by omega, by omega⟩, ⟨by omega, by omega⟩, Int.mul_comm m p, ⟨a4, by omega⟩, ⟨a5, by omega⟩, ⟨a8, by omega⟩, ?_⟩
  rw [Int.mul_comm (m * m) d, Int.mul_assoc]
theorem isqT_bd {x : Int} (h1 : x ≤ 1000000000000000000) : (0 : Int) ≤ ((isq x.toNat : Nat) : Int) ∧ ((isq x.toNat : Nat) : Int) ≤ 1000000000 := by
  have := isq_le x.toNat (by omega)
  omega
def cmpM (p d q n m : Int) : Int × Int := if okS p d q && okF n m then (if inB n (-1000000) 1000000 && decide (m ≤ 1000000) then (cmpV p d q n m, 0) else (0, 2)) else (0, 1)
theorem okF_m {n m : Int} (h : okF n m = true) : 1 ≤ m ∧ m ≤ 1000000000 := (okF_iff.1 h).1
theorem cmpIn_of {p d q n m : Int} (h : okS p d q = true) (h2 : okF n m = true) (h3 : inB n (-1000000) 1000000 = true) (h4 : m ≤ 1000000) : CmpIn p d q n m := by
  obtain ⟨a1, a2, a3, a4, a5, a6, a7, _, _⟩ := okS_bd h
  have := okF_m h2
  have := inB_iff.1 h3
  constructor <;> omega
def redB (p d q : Int) : Bool := !lessB p d q 1 1 && lessB (-p) d (-q) 0 1 && !lessB (-p) d (-q) (-1) 1
theorem cmp_in1 {p d q : Int} (h : okS p d q = true) : CmpIn p d q 1 1 ∧ CmpIn (-p) d (-q) 0 1 ∧ CmpIn (-p) d (-q) (-1) 1 := by
  obtain ⟨a1, a2, a3, a4, a5, a6, a7, _, _⟩ := okS_bd h
  refine ⟨?_, ?_, ?_⟩ <;> constructor <;> omega
end Go.Proofs.YtlmmpeeacjbobaaGreatDoor
