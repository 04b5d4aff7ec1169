/-
  Draws of fractions: nothing but the source turns.
-/
import Derived.Test.YtlmmpeeacjbobaaGreatDoorDrw
import Derived.Test.YtlmmpeeacjbobaaGreatDoorFrac
import Derived.Deep.RegionWith
namespace Go.Proofs.YtlmmpeeacjbobaaGreatDoor
open Go.RowKit

theorem src_set2 {w : World} {g m b : Nat} (h : Src w g m) (hb : g < b) (u v : Value) : Src ((w.setCell ⟨b, 0, none⟩ u).setCell ⟨b, 1, none⟩ v) g m :=
  h.far (by simp) (fun x hx => by
    have hx' : x ≠ b := by omega
    rw [Below.heap_setCell _ ⟨b, 1, none⟩ _ x hx', Below.heap_setCell _ ⟨b, 0, none⟩ _ x hx'])
theorem src_set1 {w : World} {g m b : Nat} (h : Src w g m) (hb : g < b) (i : Nat) (u : Value) : Src (w.setCell ⟨b, i, none⟩ u) g m :=
  h.far (by simp) (fun x hx => by
    have hx' : x ≠ b := by omega
    rw [Below.heap_setCell _ ⟨b, i, none⟩ _ x hx'])
theorem grown_behind {a b c : World} {g : Nat} {r : Option Nat} (h : a.grownBy b (some g)) (k : b.grownBy c r) (hr : ∀ n, r = some n → a.heap.size ≤ n) : a.grownBy c (some g) :=
  ⟨k.os.trans h.os, k.tape.trans h.tape, k.output.trans h.output, Nat.le_trans h.size k.size, fun b hb hne => by
    have h1 := h.block b hb hne
    have h2 := k.block b (Nat.lt_of_lt_of_le hb h.size) (fun e => by have := hr b e.symm; omega)
    rw [h2, h1]⟩
theorem grown_set2b {w w1 : World} {g b : Nat} (h : w.grownBy w1 (some g)) (hb : w.heap.size ≤ b) (u v : Value) : w.grownBy ((w1.setCell ⟨b, 0, none⟩ u).setCell ⟨b, 1, none⟩ v) (some g) :=
  grown_behind h (grown_set2 w1 b 0 1 u v) (fun n e => by injection e with e; omega)
theorem grown_set1b {w w1 : World} {g b : Nat} (h : w.grownBy w1 (some g)) (hb : w.heap.size ≤ b) (i : Nat) (u : Value) : w.grownBy (w1.setCell ⟨b, i, none⟩ u) (some g) :=
  grown_behind h (r := some b) ⟨rfl, rfl, rfl, by simp, fun x hx hne => Below.heap_setCell _ _ _ _ (fun e => hne (by rw [e]))⟩ (fun n e => by injection e with e; omega)
theorem grown_alloc {w w1 : World} {g : Nat} (h : w.grownBy w1 (some g)) (o : Obj) : w.grownBy (w1.alloc o) (some g) := grown_tr h (World.grownBy_alloc w1 _ _)
theorem grown_below_tr {w w1 w2 : World} {g : Nat} (h : w.grownBy w1 (some g)) (k : Below w1.heap.size w1 w2) : w.grownBy w2 (some g) := grown_tr h (below_grown k _)
/-- A fraction came back; nothing that was there has turned. -/
def RetFr (w : World) (e : Ending) (w' : World) : Prop := ∃ n d : Int, e = .returned (.agg #[.int .i64 n, .int .i64 d]) ∧ Below w.heap.size w w'
/-- A draw returned a fraction. -/
def DrewF (w : World) (g m : Nat) (e : Ending) (w' : World) : Prop := ∃ n d : Int, e = .returned (.agg #[.int .i64 n, .int .i64 d]) ∧ Src w' g m ∧ w.grownBy w' (some g)
/-- A draw returned two fractions. -/
def DrewFF (w : World) (g m : Nat) (e : Ending) (w' : World) : Prop := ∃ n d n' d' : Int, e = .returned (.tuple #[.agg #[.int .i64 n, .int .i64 d], .agg #[.int .i64 n', .int .i64 d']]) ∧ Src w' g m ∧ w.grownBy w' (some g)
end Go.Proofs.YtlmmpeeacjbobaaGreatDoor
