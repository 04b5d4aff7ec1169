/-
  The whole part of the square root, both packages: one plain function; squares.
-/
import Derived.Test.YtlmmpeeacjbobaaGreatDoorFloat
namespace Go.Proofs.YtlmmpeeacjbobaaGreatDoor
open Go.RowKit

def sqF (n : Nat) : Nat → Nat → Nat
  | 0, r => r
  | k + 1, r => if (r + 2 ^ k) * (r + 2 ^ k) ≤ n then sqF n k (r + 2 ^ k) else sqF n k r
/-- The whole part of the root of a number below 2^62. -/
def isq (n : Nat) : Nat := sqF n 31 0
theorem sqF_spec (n k r : Nat) (h1 : r * r ≤ n) (h2 : n < (r + 2 ^ k) * (r + 2 ^ k)) : sqF n k r * sqF n k r ≤ n ∧ n < (sqF n k r + 1) * (sqF n k r + 1) := by
  induction k generalizing r with
  | zero => exact ⟨h1, h2⟩
  | succ k ih =>
    unfold sqF
    split
    · rename_i h
      refine ih _ h ?_
      have e : r + 2 ^ k + 2 ^ k = r + 2 ^ (k + 1) := by rw [Nat.pow_succ]; omega
      rw [e]; exact h2
    · rename_i h
      exact ih _ h1 (by omega)
theorem isq_spec (n : Nat) (h : n ≤ 1000000000000000000) : isq n * isq n ≤ n ∧ n < (isq n + 1) * (isq n + 1) :=
  sqF_spec n 31 0 (Nat.zero_le _) (by have : (0 + 2 ^ 31) * (0 + 2 ^ 31) = 4611686018427387904 := by decide
                                      omega)
theorem sq_lt {a b : Nat} (h : a * a < b * b) : a < b := by
  rcases Nat.lt_or_ge a b with h1 | h1
  · exact h1
  · have := Nat.mul_le_mul h1 h1; omega
theorem isq_eq {n r : Nat} (h : n ≤ 1000000000000000000) (h1 : r * r ≤ n) (h2 : n < (r + 1) * (r + 1)) : isq n = r := by
  obtain ⟨h3, h4⟩ := isq_spec n h
  have a := sq_lt (Nat.lt_of_le_of_lt h1 h4)
  have b := sq_lt (Nat.lt_of_le_of_lt h3 h2)
  omega
theorem isq_le (n : Nat) (h : n ≤ 1000000000000000000) : isq n ≤ 1000000000 := by
  have h3 := (isq_spec n h).1
  have := @sq_lt (isq n) 1000000001 (by omega)
  omega
/-- The number is a square. -/
def sqB (n : Int) : Bool := if n < 0 then false else (isq n.toNat * isq n.toNat == n.toNat)
theorem cast_sq (m : Nat) : ((m * m : Nat) : Int) = (m : Int) * (m : Int) := Int.natCast_mul m m
theorem cast_sq1 (m : Nat) : (((m + 1) * (m + 1) : Nat) : Int) = ((m : Int) + 1) * ((m : Int) + 1) := Int.natCast_mul (m + 1) (m + 1)
theorem cast_half (a b : Nat) : ((a : Int) + (b : Int)).tdiv 2 = (((a + b) / 2 : Nat) : Int) := by
  rw [← Int.natCast_add]; rfl

def DownR (w : World) (k : Nat) (x : Value) (wr : World) : Prop :=
  ∃ m : Nat, m ≤ 2147483648 ∧ m ≤ k ∧ x = .int .i64 m ∧ Below w.heap.size w wr
def UpR (w : World) (n : Nat) (k : Nat) (x : Value) (wr : World) : Prop :=
  ∃ m : Nat, m ≤ 1000000000 ∧ m + k = 1000000000 ∧ m * m ≤ n ∧ x = .int .i64 m ∧ Below w.heap.size w wr
def CutR (w : World) (n : Nat) (k : Nat) (x y : Value) (wr : World) : Prop :=
  ∃ a b : Nat, a < b ∧ b ≤ 1000000001 ∧ b ≤ a + k + 1 ∧ a * a ≤ n ∧ n < b * b ∧ x = .int .i64 a ∧ y = .int .i64 b ∧ Below w.heap.size w wr
def CutZ (w : World) (k : Nat) (x y : Value) (wr : World) : Prop :=
  ∃ b : Nat, 1 ≤ b ∧ b ≤ 1000000001 ∧ b ≤ k + 1 ∧ x = .int .i64 0 ∧ y = .int .i64 b ∧ Below w.heap.size w wr


end Go.Proofs.YtlmmpeeacjbobaaGreatDoor
