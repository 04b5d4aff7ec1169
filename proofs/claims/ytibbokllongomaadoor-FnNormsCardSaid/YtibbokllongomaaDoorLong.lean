/-
  The root with the longest period: both packages' loops.
-/
import Derived.Test.YtibbokllongomaaDoorLeast
namespace Go.Proofs.YtibbokllongomaaDoor
open Go.RowKit

def lgF : Nat → Int × Nat
  | 0 => (0, 0)
  | k + 1 => if sqB ((k : Int) + 2) then lgF k else if (lgF k).2 < perN ((k : Int) + 2) then ((k : Int) + 2, perN ((k : Int) + 2)) else lgF k
def lgM (n : Int) : Int × Int × Int := if inB n 2 1000 then ((lgF (n - 1).toNat).1, ((lgF (n - 1).toNat).2 : Nat), 0) else (0, 0, 2)
theorem pd_of {d : Int} (h1 : 2 ≤ d) (h2 : d ≤ 10000) (h3 : sqB d = false) : pdM d = 0 := by
  unfold pdM
  rw [inB_iff.2 ⟨h1, h2⟩, h3]; rfl
theorem lg_bd (k : Nat) (hk : k ≤ 1000) : (lgF k).2 ≤ 400 ∧ 0 ≤ (lgF k).1 ∧ (lgF k).1 ≤ 1002 := by
  induction k with
  | zero => simp [lgF]
  | succ k ih =>
    have ih := ih (by omega)
    unfold lgF
    split
    · exact ih
    · rename_i h
      split
      · have := (per_spec (pd_of (d := (k : Int) + 2) (by omega) (by omega) (by simpa using h))).2
        simp only; omega
      · exact ih
def LoR (w : World) (N : Nat) (k : Nat) (b n d : Value) (wr : World) : Prop :=
  ∃ t : Nat, t ≤ N ∧ N ≤ t + k ∧ d = .int .i64 ((t : Int) + 2) ∧ b = .int .i64 (lgF t).1 ∧ n = .int .i64 ((lgF t).2 : Nat) ∧ Below w.heap.size w wr
end Go.Proofs.YtibbokllongomaaDoor
