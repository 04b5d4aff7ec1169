/-
  Parents of fractions: both packages' ways over paths.
-/
import Derived.Test.YtlmmpeeacjbobaaGreatDoorCv2
namespace Go.Proofs.YtlmmpeeacjbobaaGreatDoor
open Go.RowKit

/-- The last convergent; false if one of them is not plain. -/
def caM (zs : List Int) : Int × Int × Bool := if fitL zs then ((mtx zs).1.1, (mtx zs).1.2, true) else (0, 0, false)
theorem own_blk2 {w : World} {base : Nat} {e : TypeId} {n : Nat} {v : Value} {xs : List Value} (h : w.ownsRow base e 2 v n xs) (hn : 1 ≤ n) : ∃ g cap, v = .slice (some ⟨g, 0, none⟩) n cap ∧ base ≤ g ∧ g < w.heap.size ∧ n ≤ cap ∧ cap ≤ maxLen := by
  rcases h.2 with ⟨h', h0⟩ | ⟨g, cap, cur, h', hb, hg, hnc, hcm, hcs, htake⟩
  · omega
  · exact ⟨g, cap, h', hb, (Array.getElem?_eq_some_iff.1 hg).1, hnc, hcm⟩
theorem prc_last {zs : List Int} {k : Nat} (h : zs.length = k + 1) : (prc (cvl zs zs.length))[k * 2]? = some (.int .i64 (mtx zs).1.1) ∧ (prc (cvl zs zs.length))[k * 2 + 1]? = some (.int .i64 (mtx zs).1.2) := by
  rw [h, cvl_succ, List.take_of_length_le (by omega)]
  have hl : (prc (cvl zs k)).length = k * 2 := by rw [prc_len, cvl_len]
  constructor
  · rw [List.getElem?_append_right (by omega), hl, Nat.sub_self]; rfl
  · rw [List.getElem?_append_right (by omega), hl, Nat.add_sub_cancel_left]; rfl
theorem ints_last (i : List Int) (l x : Int) : (ints (i ++ [l])).set i.length (.int .i64 x) = ints (i ++ [x]) := by simp [ints]
theorem ints_at (i : List Int) (l : Int) : (ints (i ++ [l]))[i.length]? = some (.int .i64 l) := by simp [ints]
theorem own_lit02 (w : World) (o1 o2 : Obj) (e : TypeId) : (((w.alloc o1).alloc o2).alloc (.cells #[] e)).ownsRow (w.heap.size + 1) e 1 (.slice (some ⟨w.heap.size + 1 + 1, 0, none⟩) 0 0) 0 [] := by
  have h := own_lit00 ((w.alloc o1).alloc o2) e 1
  rw [World.size_alloc, World.size_alloc] at h
  exact own_base h (by omega)
/-- What the walk uses of a copied row whose last cell is changed. -/
theorem own_last {w : World} {base n : Nat} {e : TypeId} {v : Value} {xs : List Value} (i : List Int) (l : Int) (hn : n = i.length + 1) (hx : xs = ints (i ++ [l])) (h : w.ownsRow base e 1 v n xs) :
    ∃ g cap, v = .slice (some ⟨g, 0, none⟩) (i.length + 1) cap ∧ (base ≤ g ∧ g < w.heap.size ∧ i.length + 1 ≤ cap) ∧ w.cell? ⟨g, i.length, none⟩ = some (.int .i64 l) ∧ w.frozen? ⟨g, i.length, none⟩ = false ∧ w.ownsRow base e 1 (.slice (some ⟨g, 0, none⟩) (i.length + 1) cap) (i.length + 1) (ints (i ++ [l])) := by
  subst hn hx
  obtain ⟨g, cap, rfl, h1, h2, h3, h4⟩ := own_block h (by omega)
  exact ⟨g, cap, rfl, ⟨h1, h2, h3⟩, (h.cellAt i.length (by omega)).trans (ints_at i l), h.frozenAt i.length, h⟩
/-- The changed row. -/
theorem own_changed {w : World} {base g cap : Nat} {e : TypeId} {i : List Int} {l : Int} (x : Int) (h : w.ownsRow base e 1 (.slice (some ⟨g, 0, none⟩) (i.length + 1) cap) (i.length + 1) (ints (i ++ [l]))) :
    (w.setCell ⟨g, i.length, none⟩ (.int .i64 x)).ownsRow base e 1 (.slice (some ⟨g, 0, none⟩) (i.length + 1) cap) (i.length + 1) (ints (i ++ [x])) := by
  have h2 := (h.stored i.length (.int .i64 x)).1
  rw [ints_last] at h2
  exact h2
end Go.Proofs.YtlmmpeeacjbobaaGreatDoor
