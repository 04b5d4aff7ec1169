/-
  Draws of orders and numbers: nothing but the source turns.
-/
import Derived.Test.YtlmmpeeacjbobaaGreatDoorDraw
import Derived.Test.YtlmmpeeacjbobaaGreatDoorApp
namespace Go.Proofs.YtlmmpeeacjbobaaGreatDoor
open Go.RowKit

theorem Src.alloc' {w : World} {g m : Nat} (h : Src w g m) (o : Obj) : Src (w.alloc o) g m := h.below ((Below.refl _ _).alloc (Nat.le_refl _) _)
theorem Src.lt' {w : World} {g m : Nat} (h : Src w g m) : g < w.heap.size := by
  obtain ⟨A, n, c, i, s, h1, _⟩ := h
  exact h1.lt
set_option maxHeartbeats 1000000 in
theorem among_any (g m : Nat) (v : Value) (n : Nat) (xs : List Int) (w : World) (h : Src w g m) (hm : m ≤ 800000) (hv : Rs w 1 v n (ints xs)) (hne : some g ≠ v.ownBlock) (h1 : 1 ≤ n) (h2 : n ≤ 1000) :
    Calls Tryz.prog 32 #[.pointer (some ⟨g, 0, none⟩), v] w (DrewP w g (m + 2) (fun b => b ∈ xs)) := by
  have hl : xs.length = n := by have := (rd_len hv.1).1; rw [ints_len] at this; omega
  have HV := Lib.hid (fun w' (hg : w.grownBy w' (some g)) => hv.grown hg (.inr hne))
  obtain ⟨A, c, rfl, -⟩ := id hv.1
  clear hv hne
  go_enter Tryz.func32, Tryz.ntmps32
  go_wp2_with fail
  apply Calls.mono
  · with_reducible exact pick_any g m n _ h (by omega) (by omega) (by omega)
  rintro _ w1 ⟨b, rfl, ⟨b0, b1⟩, s1, g1⟩
  obtain ⟨j, rfl⟩ := Int.eq_ofNat_of_zero_le b0
  obtain ⟨z, hz⟩ := get_ex (l := xs) (k := j) (by omega)
  obtain ⟨A', c', hA, _, _, _, h0 | ⟨g', o, hA2, hg', hcell⟩⟩ := (HV.out w1 g1).1
  · omega
  injection hA with hA _ hcc
  subst hcc
  subst hA
  subst hA2
  have c1 : w1.cell? ⟨g', o + j, none⟩ = some (.int .i64 z) := hcell j _ (ints_get hz)
  have hmem := List.mem_of_getElem? hz
  clear hcell hz HV
  go_wp2
  go_ret
  exact ⟨z, rfl, hmem, s1, g1⟩
theorem f6big_any (A : Option Addr) (n c : Nat) (r : Bool) (hr : decide (4096 < n) = r) (w : World) : Calls Tryz.prog 4 #[.slice A n c] w (Ret w (.bool r)) := by
  by_cases h : 4096 < n
  · obtain rfl : true = r := by rw [← hr, decide_eq_true h]
    have h2 : (4096 : Int) < (n : Int) := by omega
    clear hr
    go_enter Tryz.func4, Tryz.ntmps4
    go_wp2
    go_ret
    refine ⟨by first | rfl | (simp), ?_⟩
    repeat' (first | (with_reducible exact Below.refl _ _) | (with_reducible assumption) | (with_reducible refine Below.alloc ?_ ?_ _) | (with_reducible refine Below.drew ?_) | (with_reducible refine bdrewN ?_ _) | (with_reducible refine Below.setCell ?_ ?_ _) | (with_reducible refine bthen ?_ (by assumption) ?_) | go_size)
  · obtain rfl : false = r := by rw [← hr, decide_eq_false h]
    have h2 : ¬ ((4096 : Int) < (n : Int)) := by omega
    clear hr
    go_enter Tryz.func4, Tryz.ntmps4
    go_wp2
    go_ret
    refine ⟨by first | rfl | (simp), ?_⟩
    repeat' (first | (with_reducible exact Below.refl _ _) | (with_reducible assumption) | (with_reducible refine Below.alloc ?_ ?_ _) | (with_reducible refine Below.drew ?_) | (with_reducible refine bdrewN ?_ _) | (with_reducible refine Below.setCell ?_ ?_ _) | (with_reducible refine bthen ?_ (by assumption) ?_) | go_size)
end Go.Proofs.YtlmmpeeacjbobaaGreatDoor
