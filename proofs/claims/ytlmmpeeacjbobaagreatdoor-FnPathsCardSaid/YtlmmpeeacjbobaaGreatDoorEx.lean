/-
  The terms of a positive fraction, and the path to it, as plain lists.
-/
import Derived.Test.YtlmmpeeacjbobaaGreatDoorCon
namespace Go.Proofs.YtlmmpeeacjbobaaGreatDoor
open Go.RowKit

def exF : Nat → Int → Int → List Int
  | 0, _, _ => []
  | k + 1, n, d => if d = 0 then [] else (n / d) :: exF k d (n % d)
/-- The loop over n and d ends within k rounds. -/
def exEnd : Nat → Int → Int → Prop
  | 0, _, d => d = 0
  | k + 1, n, d => d = 0 ∨ exEnd k d (n % d)
theorem exF_zero (k : Nat) (n : Int) : exF k n 0 = [] := by
  cases k with
  | zero => rfl
  | succ k => unfold exF; rw [if_pos rfl]
theorem exF_step {k : Nat} {n d : Int} (h : d ≠ 0) : exF (k + 1) n d = (n / d) :: exF k d (n % d) := by
  show (if d = 0 then [] else _) = _
  rw [if_neg h]
theorem exEnd_up : ∀ (k : Nat) (n d : Int), 0 ≤ d → d < 2 ^ k → exEnd (2 * k) n d
  | 0, n, d, h0, h1 => by
    show d = 0
    have : (2 : Int) ^ 0 = 1 := rfl
    omega
  | k + 1, n, d, h0, h1 => by
    rw [show 2 * (k + 1) = 2 * k + 1 + 1 by omega]
    by_cases hd : d = 0
    · exact .inl hd
    · right
      have r0 := Int.emod_nonneg n hd
      have r1 := Int.emod_lt_of_pos n (show 0 < d by omega)
      generalize n % d = r at *
      by_cases hr : r = 0
      · exact .inl hr
      · right
        have s0 := Int.emod_nonneg d hr
        have s1 := Int.emod_lt_of_pos d (show 0 < r by omega)
        have e := Int.emod_add_mul_ediv d r
        have q1 : 1 ≤ d / r := (Int.le_ediv_iff_mul_le (show 0 < r by omega)).2 (by omega)
        have q2 : r * 1 ≤ r * (d / r) := Int.mul_le_mul_of_nonneg_left q1 (by omega)
        have e2 : (2 : Int) ^ (k + 1) = 2 * 2 ^ k := by rw [Int.pow_succ]; omega
        exact exEnd_up k r (d % r) s0 (by omega)
theorem exEnd_all (n d : Int) (h0 : 0 ≤ d) (h1 : d ≤ 1000000000) : exEnd 60 n d := by
  have h : (1000000000 : Int) < 2 ^ 30 := by decide
  exact exEnd_up 30 n d h0 (by omega)
theorem exF_down : ∀ (k : Nat) (n d : Int), exEnd k n d → 0 < d → d < n → n ≤ 1000000000 → ∃ (i : List Int) (l : Int), exF k n d = i ++ [l] ∧ (∀ t ∈ i, 1 ≤ t ∧ t ≤ 500000000) ∧ 2 ≤ l ∧ l ≤ 1000000000 ∧ i.length + 1 ≤ k
  | 0, n, d, h, hd, _, _ => by
    have : d = 0 := h
    omega
  | k + 1, n, d, h, hd, hn, hb => by
    have h : exEnd k d (n % d) := by
      rcases h with h | h
      · omega
      · exact h
    rw [exF_step (by omega)]
    have r0 := Int.emod_nonneg n (show d ≠ 0 by omega)
    have r1 := Int.emod_lt_of_pos n hd
    have e := Int.emod_add_mul_ediv n d
    have q1 : 1 ≤ n / d := (Int.le_ediv_iff_mul_le hd).2 (by omega)
    have q2 : n / d ≤ n := Int.ediv_le_self _ (by omega)
    by_cases hr : n % d = 0
    · rw [hr, exF_zero]
      refine ⟨[], n / d, rfl, by simp, ?_, by omega, by simp⟩
      rcases Int.lt_or_le (n / d) 2 with g | g
      · have : n / d = 1 := by omega
        rw [this] at e
        omega
      · exact g
    · have d2 : 2 ≤ d := by omega
      have q3 : n / d ≤ 500000000 := by
        have : n / d < 500000001 := Int.ediv_lt_of_lt_mul hd (by omega)
        omega
      obtain ⟨i, l, e1, e2, e3, e4, e5⟩ := exF_down k d (n % d) h (by omega) r1 (by omega)
      refine ⟨n / d :: i, l, by rw [e1]; rfl, ?_, e3, e4, by simp; omega⟩
      intro t ht
      rcases List.mem_cons.1 ht with rfl | ht
      · exact ⟨q1, q3⟩
      · exact e2 t ht
/-- What a list of terms of a positive fraction holds: all but the last, and the last. -/
structure ExL (i : List Int) (l : Int) : Prop where
  hd : ∀ t ∈ i, 0 ≤ t ∧ t ≤ 500000000
  tl : ∀ t ∈ i.drop 1, 1 ≤ t
  one : i = [] → 1 ≤ l
  two : i ≠ [] → 2 ≤ l
  top : l ≤ 1000000000
  len : i.length + 1 ≤ 60
theorem ex_all {n d : Int} (n1 : 1 ≤ n) (n2 : n ≤ 1000000000) (d1 : 1 ≤ d) (d2 : d ≤ 1000000000) : ∃ (i : List Int) (l : Int), exF 60 n d = i ++ [l] ∧ ExL i l := by
  have h : exEnd 59 d (n % d) := by
    rcases exEnd_all n d (by omega) d2 with h | h
    · omega
    · exact h
  rw [exF_step (by omega)]
  have r0 := Int.emod_nonneg n (show d ≠ 0 by omega)
  have r1 := Int.emod_lt_of_pos n (show 0 < d by omega)
  have e := Int.emod_add_mul_ediv n d
  have q1 : 0 ≤ n / d := Int.ediv_nonneg (by omega) (by omega)
  have q2 : n / d ≤ n := Int.ediv_le_self _ (by omega)
  by_cases hr : n % d = 0
  · rw [hr, exF_zero]
    refine ⟨[], n / d, rfl, by simp, by simp, fun _ => ?_, fun h => absurd rfl h, by omega, by simp⟩
    rcases Int.lt_or_le (n / d) 1 with g | g
    · have : n / d = 0 := by omega
      rw [this] at e
      omega
    · exact g
  · have q3 : n / d ≤ 500000000 := by
      have : n / d < 500000001 := Int.ediv_lt_of_lt_mul (by omega) (by omega)
      omega
    obtain ⟨i, l, e1, e2, e3, e4, e5⟩ := exF_down 59 d (n % d) h (by omega) r1 (by omega)
    refine ⟨n / d :: i, l, by rw [e1]; rfl, ?_, by simpa using fun t ht => (e2 t ht).1, by simp, fun _ => e3, e4, by simp; omega⟩
    intro t ht
    rcases List.mem_cons.1 ht with rfl | ht
    · exact ⟨q1, q3⟩
    · have := e2 t ht; omega
/-- The path: the last term less 1. -/
def pthL (i : List Int) (l : Int) : List Int := if l = 1 then [] else i ++ [l - 1]
/-- The path less its last step. -/
def shtL (i : List Int) (l : Int) : List Int := if 2 < l then i ++ [l - 2] else if i = [0] then [] else i
end Go.Proofs.YtlmmpeeacjbobaaGreatDoor
