/-
  Lists of terms: their validity in both packages; the terms of a head and a period.
-/
import Derived.Test.YtlmmpeeacjbobaaGreatDoorApp
import Derived.Test.YtlmmpeeacjbobaaGreatDoorFit
namespace Go.Proofs.YtlmmpeeacjbobaaGreatDoor
open Go.RowKit

def IxR (w : World) (f : Int → Bool) (xs : List Int) (n : Nat) (k : Nat) (i : Value) (wr : World) : Prop :=
  ∃ j : Nat, j ≤ n ∧ n ≤ j + k ∧ i = .int .i64 j ∧ (∀ t x, t < j → xs[t]? = some x → f x = false) ∧ Below w.heap.size w wr
theorem anyF {α : Type} {f : α → Bool} {xs : List α} (h : ∀ t x, t < xs.length → xs[t]? = some x → f x = false) : xs.any f = false := by
  rw [List.any_eq_false]
  intro x hx
  obtain ⟨t, ht, he⟩ := List.getElem_of_mem hx
  rw [h t x ht (by rw [List.getElem?_eq_getElem ht, he])]
  decide
theorem new2 (w : World) (t : TypeId) (x y : Value) : (w.alloc (.cells #[x, y] t)).cell? ⟨w.heap.size, 0, none⟩ = some x ∧ (w.alloc (.cells #[x, y] t)).cell? ⟨w.heap.size, 1, none⟩ = some y :=
  ⟨cell_of_row _ _ 0 #[x, y] t (0, 0) (heap_alloc_new w _), cell_of_row _ _ 1 #[x, y] t (0, 0) (heap_alloc_new w _)⟩
end Go.Proofs.YtlmmpeeacjbobaaGreatDoor
