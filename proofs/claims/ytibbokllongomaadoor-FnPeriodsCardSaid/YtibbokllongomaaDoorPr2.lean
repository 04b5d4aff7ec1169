/-
  The period of a surd: both packages' codes, the exported lengths, and the roots' periods.
-/
import Derived.Test.YtibbokllongomaaDoorPr
namespace Go.Proofs.YtibbokllongomaaDoor
open Go.RowKit

def prM (p d q : Int) : List Int × List Int × Int :=
  if okS p d q then (match wk d (p, q) with
    | some (j, m) => ((tmL d (orb d (p, q)) m).take j, (tmL d (orb d (p, q)) m).drop j, 0)
    | none => ([], [], 5)) else ([], [], 1)
theorem pr_some {p d q : Int} {j m : Nat} (h : okS p d q = true) (hw : wk d (p, q) = some (j, m)) : prM p d q = ((tmL d (orb d (p, q)) m).take j, (tmL d (orb d (p, q)) m).drop j, 0) := by unfold prM; rw [if_pos h, hw]
theorem pr_none {p d q : Int} (h : okS p d q = true) (hw : wk d (p, q) = none) : prM p d q = ([], [], 5) := by unfold prM; rw [if_pos h, hw]
theorem pr_bad {p d q : Int} (h : okS p d q = false) : prM p d q = ([], [], 1) := by unfold prM; rw [if_neg (by rw [h]; decide)]
def PofP (w : World) (M : List Int × List Int × Int) (e : Ending) (w' : World) : Prop :=
  ∃ v1 v2, e = .returned (.tuple #[v1, v2, .int .i64 M.2.2]) ∧ w'.ownsRow w.heap.size 2 1 v1 M.1.length (ints M.1) ∧ w'.ownsRow w.heap.size 2 1 v2 M.2.1.length (ints M.2.1) ∧ (v1.ownBlock = none ∨ v1.ownBlock ≠ v2.ownBlock) ∧ Below w.heap.size w w'
def CodeP (w : World) (p d q : Int) (e : Ending) (w' : World) : Prop :=
  ∃ (g n : Nat) (vs vt : Value) (fr : Int), e = .returned (.tuple #[.pointer (some ⟨g, 0, none⟩), .int .i64 (prM p d q).2.2]) ∧ w.heap.size ≤ g ∧ Blk w' g 130 #[vs, vt, .int .i64 fr] ∧
    w'.ownsRow w.heap.size 28 3 vs n (srd d (osn (orb d (p, q)) n)) ∧ w'.ownsRow w.heap.size 2 1 vt n (ints (tmL d (orb d (p, q)) n)) ∧ Below w.heap.size w w' ∧ n ≤ 401 ∧ (∀ j m, okS p d q = true → wk d (p, q) = some (j, m) → m = n ∧ fr = (j : Int))
theorem pr_len {p d q : Int} {j m : Nat} (h : okS p d q = true) (hw : wk d (p, q) = some (j, m)) : (prM p d q).1.length = j ∧ (prM p d q).2.1.length = m - j ∧ j < m ∧ m ≤ 400 := by
  rw [pr_some h hw]
  obtain ⟨a, b, _⟩ := wk_some hw h
  refine ⟨?_, ?_, a, b⟩
  · simp only [List.length_take, tmL_len]; omega
  · simp only [List.length_drop, tmL_len]
theorem pr_small (p d q : Int) : (prM p d q).1.length ≤ 400 ∧ (prM p d q).2.1.length ≤ 400 := by
  cases h : okS p d q
  · rw [pr_bad h]; simp
  · cases hw : wk d (p, q) with
    | none => rw [pr_none h hw]; simp
    | some z =>
      obtain ⟨j, m⟩ := z
      obtain ⟨a, b, c, e⟩ := pr_len h hw
      omega
theorem sizeI_any (v : Value) (n : Nat) (xs : List Value) (w : World) (hv : Rd w 1 v n xs) : Calls Tryd.prog 99 #[v] w (Ret w (.int .i64 n)) := by
  obtain ⟨A, c, rfl, hn1, hc1, _, hr1⟩ := hv
  have hn : (n : Int) ≤ 9223372036854775807 := by simp only [maxLen] at hc1; omega
  clear hr1
  go_enter Tryd.func99, Tryd.ntmps99
  go_wp2
  go_ret
  refine ⟨by first | rfl | (simp), ?_⟩
  repeat' (first | (with_reducible exact Below.refl _ _) | (with_reducible assumption) | (with_reducible refine Below.alloc ?_ ?_ _) | (with_reducible refine Below.drew ?_) | (with_reducible refine bdrewN ?_ _) | (with_reducible refine Below.setCell ?_ ?_ _) | (with_reducible refine bthen ?_ (by assumption) ?_) | go_size)
end Go.Proofs.YtibbokllongomaaDoor
