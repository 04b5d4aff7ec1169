/-
  Paths without their last step; codes of positive fractions.
-/
import Derived.Test.YtlmmpeeacjbobaaGreatDoorPf
namespace Go.Proofs.YtlmmpeeacjbobaaGreatDoor
open Go.RowKit

theorem ints_take (xs : List Int) (m : Nat) : ints (xs.take m) = (ints xs).take m := by simp [ints, List.map_take]
theorem rs_take {w : World} {A : Option Addr} {n m c : Nat} {xs : List Int} (h : Rs w 1 (.slice A n c) n (ints xs)) (hm : m ≤ n) : Rs w 1 (.slice A m c) m (ints (xs.take m)) := by
  obtain ⟨⟨A', c', hv, hn, hc, hl, hr⟩, h2⟩ := h
  injection hv with hA _ hcc
  subst hA hcc
  refine ⟨⟨A, c, rfl, by omega, hc, ?_, ?_⟩, ?_⟩
  · rw [ints_len] at hl ⊢
    rw [List.length_take]; omega
  · rcases hr with h0 | ⟨g, o, hA, hg, hcell⟩
    · exact .inl (by omega)
    · refine .inr ⟨g, o, hA, hg, fun j u hu => hcell j u ?_⟩
      rw [ints_take, List.getElem?_take] at hu
      split at hu
      · exact hu
      · cases hu
  · intro k c2 e
    injection e with e1 e2 e3
    subst e1
    rw [← e3]
    exact h2 n c rfl
/-- How many terms are left without the zeros at the end. -/
def trN (xs : List Int) : Nat → Nat
  | 0 => 0
  | k + 1 => if xs.getD k 0 = 0 then trN xs k else k + 1
theorem trN_le (xs : List Int) : ∀ k, trN xs k ≤ k
  | 0 => Nat.le_refl _
  | k + 1 => by
    unfold trN
    split
    · have := trN_le xs k; omega
    · omega
def trL (xs : List Int) : List Int := xs.take (trN xs xs.length)
theorem trL_len (xs : List Int) : (trL xs).length = trN xs xs.length := by
  unfold trL
  rw [List.length_take]
  have := trN_le xs xs.length
  omega
end Go.Proofs.YtlmmpeeacjbobaaGreatDoor
