/-
  Slices that are read or made: the words for them; contracts of the functions on lists of integers that the laws use.
-/
import Derived.Test.YtlmmpeeacjbobaaGreatDoorBase
namespace Go.Proofs.YtlmmpeeacjbobaaGreatDoor
open Go.RowKit

/-- A slice that reads as the cells xs ('size' cells an element). -/
def Rd (w : World) (size : Nat) (v : Value) (n : Nat) (xs : List Value) : Prop :=
  ∃ A c, v = .slice A n c ∧ n ≤ c ∧ c ≤ maxLen ∧ xs.length = n * size ∧ (n = 0 ∨ ∃ g o, A = some ⟨g, o, none⟩ ∧ g < w.heap.size ∧ ∀ j u, xs[j]? = some u → w.cell? ⟨g, o + j, none⟩ = some u)
theorem Rd.below {w w' : World} {B size n : Nat} {v : Value} {xs : List Value} (h : Rd w size v n xs) (hb : Below B w w') (hB : w.heap.size ≤ B) : Rd w' size v n xs := by
  obtain ⟨A, c, hv, hn, hc, hl, hr⟩ := h
  refine ⟨A, c, hv, hn, hc, hl, ?_⟩
  rcases hr with h0 | ⟨g, o, hA, hg, hcell⟩
  · exact .inl h0
  · exact .inr ⟨g, o, hA, Nat.lt_of_lt_of_le hg hb.size, fun j u hu => (hb.cell (p := ⟨g, o + j, none⟩) (by simp; omega)).trans (hcell j u hu)⟩
theorem Rd.alloc {w : World} {size n : Nat} {v : Value} {xs : List Value} (h : Rd w size v n xs) (o : Obj) : Rd (w.alloc o) size v n xs := h.below (B := w.heap.size) ((Below.refl _ _).alloc (Nat.le_refl _) o) (Nat.le_refl _)
theorem Rd.of_own {w : World} {base : Nat} {e : TypeId} {size n : Nat} {v : Value} {xs : List Value} (h : w.ownsRow base e size v n xs) : Rd w size v n xs := by
  have hl := h.1
  rcases h.2 with ⟨rfl, rfl⟩ | ⟨g, cap, cur, rfl, hb, hg, hnc, hcm, hcs, ht⟩
  · exact ⟨none, 0, rfl, Nat.le_refl _, by simp [maxLen], hl, .inl rfl⟩
  · refine ⟨_, _, rfl, hnc, hcm, hl, .inr ⟨g, 0, rfl, (Array.getElem?_eq_some_iff.1 hg).1, fun j u hu => ?_⟩⟩
    have := h.cells (g := g) rfl j u hu
    have e : (⟨g, 0, none⟩ : Addr).add j = ⟨g, 0 + j, none⟩ := by unfold Addr.add; by_cases hj : j = 0 <;> simp [hj]
    rw [← e]
    exact this
/-- The row that a call has made: new, and just these cells. -/
def Row (B : Nat) (w : World) (e : TypeId) (size : Nat) (v : Value) (n : Nat) (xs : List Value) : Prop := w.ownsRow B e size v n xs
theorem own_below {B base size n : Nat} {w w' : World} {e : TypeId} {v : Value} {xs : List Value} (h : w.ownsRow base e size v n xs) (hb : Below B w w') (hB : w.heap.size ≤ B) : w'.ownsRow base e size v n xs := by
  refine ⟨h.1, ?_⟩
  rcases h.2 with hn | ⟨g, cap, cur, rfl, hbg, hg, r⟩
  · exact .inl hn
  · refine .inr ⟨g, cap, cur, rfl, hbg, ?_, r⟩
    rw [hb.block g (Nat.lt_of_lt_of_le (Array.getElem?_eq_some_iff.1 hg).1 hB)]
    exact hg
theorem own_base {base b2 size n : Nat} {w : World} {e : TypeId} {v : Value} {xs : List Value} (h : w.ownsRow base e size v n xs) (hB : b2 ≤ base) : w.ownsRow b2 e size v n xs := by
  refine ⟨h.1, ?_⟩
  rcases h.2 with hn | ⟨g, cap, cur, rfl, hbg, r⟩
  · exact .inl hn
  · exact .inr ⟨g, cap, cur, rfl, Nat.le_trans hB hbg, r⟩
/-- A call returns a new row of these cells. -/
def RetRow (w : World) (e : TypeId) (size n : Nat) (xs : List Value) (en : Ending) (w' : World) : Prop := ∃ v, en = .returned v ∧ w'.ownsRow w.heap.size e size v n xs ∧ Below w.heap.size w w'

def ints (zs : List Int) : List Value := zs.map (Value.int .i64)
theorem ints_len (zs : List Int) : (ints zs).length = zs.length := by simp [ints]
theorem ints_get {zs : List Int} {k : Nat} {z : Int} (h : zs[k]? = some z) : (ints zs)[k]? = some (.int .i64 z) := by simp [ints, h]
theorem get_ex {α : Type} {l : List α} {k : Nat} (h : k < l.length) : ∃ z, l[k]? = some z := ⟨l[k], List.getElem?_eq_getElem h⟩
theorem Tryz.infoI : (Tryz.prog.info? 2).map (fun i => (i.zero, i.size, i.bytes)) = some (some (.int .i64 0), 1, 8) := by kernel_rfl
theorem ints_one (zs : List Int) : ∀ u ∈ ints zs, u.oneCell' = true := by
  intro u hu
  simp only [ints, List.mem_map] at hu
  obtain ⟨z, _, rfl⟩ := hu
  rfl
theorem rd_len {w : World} {size n : Nat} {v : Value} {xs : List Value} (h : Rd w size v n xs) : xs.length = n * size ∧ n ≤ 9223372036854775807 := by
  obtain ⟨A, c, hv, hn, hc, hl, hr⟩ := h
  simp only [maxLen] at hc
  exact ⟨hl, by omega⟩

/-- What a copy that goes from left to right holds behind j rounds. -/
def fl (zs : List Int) (j : Nat) : List Int := zs.take j ++ List.replicate (zs.length - j) 0
theorem fl_len (zs : List Int) (j : Nat) (h : j ≤ zs.length) : (fl zs j).length = zs.length := by
  simp only [fl, List.length_append, List.length_take, List.length_replicate]; omega
theorem fl_zero (zs : List Int) : fl zs 0 = List.replicate zs.length 0 := by simp [fl]
theorem fl_end (zs : List Int) (j : Nat) (h : zs.length ≤ j) : fl zs j = zs := by simp [fl, List.take_of_length_le h, Nat.sub_eq_zero_of_le h]
theorem fl_set (zs : List Int) (j : Nat) (z : Int) (h : zs[j]? = some z) : (fl zs j).set j z = fl zs (j + 1) := by
  have hj : j < zs.length := by
    rcases Nat.lt_or_ge j zs.length with h' | h'
    · exact h'
    · rw [List.getElem?_eq_none h'] at h; cases h
  have e0 : zs.length - j = (zs.length - (j + 1)) + 1 := by omega
  unfold fl
  rw [e0, List.replicate_succ, List.set_append_right _ _ (by simp; omega)]
  have e1 : j - (zs.take j).length = 0 := by simp; omega
  rw [e1, List.set_cons_zero, List.take_add_one, h]
  simp
theorem ints_set (zs : List Int) (j : Nat) (z : Int) : (ints zs).set j (.int .i64 z) = ints (zs.set j z) := by simp [ints, List.map_set]

end Go.Proofs.YtlmmpeeacjbobaaGreatDoor
