/-
  The least solutions in order: both packages' loops.
-/
import Derived.Test.YtibbokllongomaaDoorPairs
namespace Go.Proofs.YtibbokllongomaaDoor
open Go.RowKit

theorem new_at (W : World) {cs : Array Value} {t : TypeId} {B : Nat} (hB : W.heap.size = B) : (W.alloc (.cells cs t)).heap[B]? = some (.cells cs t (0, 0)) := by subst hB; exact heap_alloc_new W _
theorem row_slice2 {w : World} {base size n : Nat} {e : TypeId} {v : Value} {xs : List Value} (h : w.ownsRow base e size v n xs) : ∃ a c, v = .slice a n c := by
  rcases h.2 with ⟨rfl, rfl⟩ | ⟨g, cap, cur, rfl, _⟩
  · exact ⟨_, _, rfl⟩
  · exact ⟨_, _, rfl⟩
theorem ppB_stop {d X Y : Int} {b : Bool} {t n : Nat} (h : (ppS d X Y b t).2 = false) (ht : t < n) : ppB d X Y b n = false := by
  obtain ⟨m, rfl⟩ : ∃ m, n = m + 1 := ⟨n - 1, by omega⟩
  exact pp_stop h m (by omega)
def PpR (w : World) (d X Y : Int) (b : Bool) (n gl : Nat) (k : Nat) (v vb vp : Value) (wr : World) : Prop :=
  ∃ (t g : Nat) (x y x0 y0 : Int), (t ≤ n ∧ n ≤ t + k) ∧ vb = .bool (ppS d X Y b t).2 ∧ vp = .pointer (some ⟨g, 0, none⟩) ∧ ((ppS d X Y b t).2 = true → x = (ppS d X Y b t).1.1 ∧ y = (ppS d X Y b t).1.2) ∧ (b = true → x0 = X ∧ y0 = Y) ∧ ppB d X Y b t = true ∧
    wr.ownsRow w.heap.size 40 2 v t (prs (ppL d X Y b t)) ∧ (v.ownBlock ≠ some g ∧ v.ownBlock ≠ some gl) ∧ Blk wr g 40 #[.int .i64 x, .int .i64 y] ∧ Blk wr gl 40 #[.int .i64 x0, .int .i64 y0] ∧ Below w.heap.size w wr ∧ (w.heap.size ≤ gl ∧ w.heap.size ≤ g)
theorem own_lit0' (w : World) (e : TypeId) (size : Nat) : (w.alloc (.cells #[] e)).ownsRow w.heap.size e size (.slice (some ⟨w.heap.size, 0, none⟩) 0 0) 0 [] :=
  World.ownsRow_lit w #[] 0 (Nat.le_refl _) (by simp [maxLen]) (by simp)
def PpSR (w : World) (d X Y : Int) (b : Bool) (n gl g : Nat) (k : Nat) (v vb i : Value) (wr : World) : Prop :=
  ∃ (t : Nat) (x y x0 y0 : Int) (bb : Bool), (t ≤ n ∧ n ≤ t + k) ∧ vb = .bool bb ∧ i = .int .i64 t ∧ (t < n → bb = (ppS d X Y b t).2 ∧ ((ppS d X Y b t).2 = true → x = (ppS d X Y b t).1.1 ∧ y = (ppS d X Y b t).1.2)) ∧ (b = true → x0 = X ∧ y0 = Y) ∧ ppB d X Y b t = true ∧
    wr.ownsRow w.heap.size 40 2 v t (prs (ppL d X Y b t)) ∧ (v.ownBlock ≠ some g ∧ v.ownBlock ≠ some gl) ∧ Blk wr g 40 #[.int .i64 x, .int .i64 y] ∧ Blk wr gl 40 #[.int .i64 x0, .int .i64 y0] ∧ Below w.heap.size w wr
end Go.Proofs.YtibbokllongomaaDoor
