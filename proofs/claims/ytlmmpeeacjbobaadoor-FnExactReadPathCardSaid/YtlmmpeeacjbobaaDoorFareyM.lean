/-
  The Farey sequence, plain: for each order that is let in both packages' ways come to their ends, and to the same list.
-/
import Derived.Test.YtlmmpeeacjbobaaDoorFr
namespace Go.Proofs.YtlmmpeeacjbobaaDoor
open Go.RowKit

/-- The element behind b, where a stands before it. -/
def fnext (N : Int) (a b : Int × Int) : Int × Int := (((N + a.2) / b.2) * b.1 - a.1, ((N + a.2) / b.2) * b.2 - a.2)
def farI (N : Int) : Nat → Int × Int → Int × Int → List (Int × Int)
  | 0, _, _ => []
  | k + 1, a, b => b :: (if b.1 = b.2 then [] else farI N k b (fnext N a b))
def farS (N : Int) : Nat → Int × Int → Int × Int → List (Int × Int)
  | 0, _, _ => []
  | k + 1, a, b => if b.1 ≤ b.2 then b :: farS N k b (fnext N a b) else []
/-- What the walk asks of each step: the numbers are small, the denominator is none below 1; the end is reached. -/
def okP (a b : Int × Int) : Bool := decide (0 ≤ a.1) && decide (a.1 ≤ 100) && decide (0 ≤ a.2) && decide (a.2 ≤ 100) && decide (0 ≤ b.1) && decide (b.1 ≤ 100) && decide (1 ≤ b.2) && decide (b.2 ≤ 100)
def goodI (N : Int) : Nat → Int × Int → Int × Int → Bool
  | 0, _, _ => false
  | k + 1, a, b => okP a b && (if b.1 = b.2 then true else goodI N k b (fnext N a b))
def goodS (N : Int) : Nat → Int × Int → Int × Int → Bool
  | 0, _, _ => false
  | k + 1, a, b => okP a b && (if b.1 ≤ b.2 then goodS N k b (fnext N a b) else true)
/-- The Farey sequence of an order. -/
def farL (N : Int) : List (Int × Int) := (0, 1) :: farI N 600 (0, 1) (1, N)
theorem far_all : (List.range 40).all (fun i => goodI (i + 1) 600 (0, 1) (1, i + 1) && goodS (i + 1) 600 (0, 1) (1, i + 1) && decide (farI (i + 1) 600 (0, 1) (1, i + 1) = farS (i + 1) 600 (0, 1) (1, i + 1)) && decide ((farI (i + 1) 600 (0, 1) (1, i + 1)).length < 600)) = true := by decide +kernel
theorem far_facts {N : Int} (h1 : 1 ≤ N) (h2 : N ≤ 40) : goodI N 600 (0, 1) (1, N) = true ∧ goodS N 600 (0, 1) (1, N) = true ∧ farI N 600 (0, 1) (1, N) = farS N 600 (0, 1) (1, N) ∧ (farI N 600 (0, 1) (1, N)).length < 600 := by
  have h := List.all_eq_true.1 far_all (N - 1).toNat (List.mem_range.2 (by omega))
  have e : (((N - 1).toNat : Nat) : Int) + 1 = N := by omega
  simp only [e, Bool.and_eq_true, decide_eq_true_eq] at h
  exact ⟨h.1.1.1, h.1.1.2, h.1.2, h.2⟩
theorem okP_spec {a b : Int × Int} (h : okP a b = true) : 0 ≤ a.1 ∧ a.1 ≤ 100 ∧ 0 ≤ a.2 ∧ a.2 ≤ 100 ∧ 0 ≤ b.1 ∧ b.1 ≤ 100 ∧ 1 ≤ b.2 ∧ b.2 ≤ 100 := by
  simp only [okP, Bool.and_eq_true, decide_eq_true_eq] at h
  omega
end Go.Proofs.YtlmmpeeacjbobaaDoor
