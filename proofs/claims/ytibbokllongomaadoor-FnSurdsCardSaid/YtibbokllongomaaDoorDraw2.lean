/-
  What the laws over draws share: the bytes that came in, and the laws' own small functions on them.
-/
import Derived.Test.YtibbokllongomaaDoorDraw
import Derived.Test.YtibbokllongomaaDoorLaw
namespace Go.Proofs.YtibbokllongomaaDoor
open Go.RowKit

theorem byteRd_of_row {w : World} {a : Option Addr} {len cap : Nat} {zs : List Int} (h : IsRow .u8 w a len cap zs) : ByteRd w w.heap.size a len := by
  rcases h with ⟨rfl, rfl, rfl, rfl⟩ | ⟨x, rfl, hl, hm, hz, hcell, hwf⟩
  · exact .inl rfl
  · by_cases h0 : len = 0
    · exact .inl h0
    · obtain ⟨b, off, spot⟩ := x
      have hspot : spot = none := by
        have hc := hcell 0 (by omega)
        simpa [Addr.add] using World.cell?_spot hc
      subst hspot
      have hlt : b < w.heap.size := by
        have hc := hcell 0 (by omega)
        exact World.block_lt_of_cell? w _ hc
      refine .inr ⟨b, off, rfl, hlt, by omega, fun j hj => ?_⟩
      have hc := hcell j (by omega)
      have e1 : (⟨b, off, none⟩ : Addr).add j = ⟨b, off + j, none⟩ := by unfold Addr.add; by_cases h : j = 0 <;> simp [h]
      rw [e1] at hc
      have hw := bounds_u8 (hwf (zs.getD j 0) (by rw [List.getD_eq_getElem?_getD, List.getElem?_eq_getElem (by omega)]; exact List.getElem_mem _))
      exact ⟨_, hw, hc⟩
theorem a2Long_any (a a' : Option Addr) (n n' c c' : Nat) (r : Bool) (hr : (decide (n ≤ 3000) && decide (n' ≤ 3000)) = !r) (w : World) : Calls Tryd.prog 8 #[.slice a n c, .slice a' n' c'] w (Ret w (.bool r)) := by
  by_cases h1 : n ≤ 3000
  · by_cases h2 : n' ≤ 3000
    · obtain rfl : r = false := by simpa [h1, h2] using hr
      have e1 : ¬ (3000 < (n : Int)) := by omega
      have e2 : ¬ (3000 < (n' : Int)) := by omega
      clear hr
      go_enter Tryd.func8, Tryd.ntmps8
      go_wp2
      go_ret
      refine ⟨by first | rfl | (simp), ?_⟩
      repeat' (first | (with_reducible exact Below.refl _ _) | (with_reducible assumption) | (with_reducible refine Below.alloc ?_ ?_ _) | (with_reducible refine Below.drew ?_) | (with_reducible refine bdrewN ?_ _) | (with_reducible refine Below.setCell ?_ ?_ _) | (with_reducible refine bthen ?_ (by assumption) ?_) | go_size)
    · obtain rfl : r = true := by simpa [h1, h2] using hr
      have e1 : ¬ (3000 < (n : Int)) := by omega
      have e2 : (3000 < (n' : Int)) := by omega
      clear hr
      go_enter Tryd.func8, Tryd.ntmps8
      go_wp2
      go_ret
      refine ⟨by first | rfl | (simp), ?_⟩
      repeat' (first | (with_reducible exact Below.refl _ _) | (with_reducible assumption) | (with_reducible refine Below.alloc ?_ ?_ _) | (with_reducible refine Below.drew ?_) | (with_reducible refine bdrewN ?_ _) | (with_reducible refine Below.setCell ?_ ?_ _) | (with_reducible refine bthen ?_ (by assumption) ?_) | go_size)
  · obtain rfl : r = true := by simpa [h1] using hr
    have e1 : (3000 < (n : Int)) := by omega
    clear hr
    go_enter Tryd.func8, Tryd.ntmps8
    go_wp2
    go_ret
    refine ⟨by first | rfl | (simp), ?_⟩
    repeat' (first | (with_reducible exact Below.refl _ _) | (with_reducible assumption) | (with_reducible refine Below.alloc ?_ ?_ _) | (with_reducible refine Below.drew ?_) | (with_reducible refine bdrewN ?_ _) | (with_reducible refine Below.setCell ?_ ?_ _) | (with_reducible refine bthen ?_ (by assumption) ?_) | go_size)
theorem a2At_any (a : Option Addr) (n c : Nat) (i k : Int) (w : World) (hr : ByteRd w w.heap.size a n) (hi : 0 ≤ i) (hi2 : i ≤ 1000) : Calls Tryd.prog 16 #[.slice a n c, .int .i64 i, .int .i64 k] w (fun e w' => ∃ b : Int, e = .returned (.int .i64 b) ∧ (0 ≤ b ∧ (1 ≤ k → b < k) ∧ b ≤ 255) ∧ Below w.heap.size w w') := by
  by_cases h1 : i ≥ (n : Int)
  · go_enter Tryd.func16, Tryd.ntmps16
    go_wp2
    go_ret
    exact ⟨0, rfl, ⟨by omega, by omega, by omega⟩, Below.refl _ _⟩
  · by_cases h2 : k < 1
    · go_enter Tryd.func16, Tryd.ntmps16
      go_wp2
      go_ret
      exact ⟨0, rfl, ⟨by omega, by omega, by omega⟩, Below.refl _ _⟩
    · rcases hr with h0 | ⟨gb, o, rfl, hgb, _, hcell⟩
      · omega
      obtain ⟨j, rfl⟩ := Int.eq_ofNat_of_zero_le hi
      obtain ⟨b, ⟨hb0, hb1⟩, hc⟩ := hcell j (by omega)
      have hk0 : k ≠ 0 := by omega
      have r1 := Int.emod_nonneg b hk0
      have r2 := Int.emod_lt_of_pos b (show 0 < k by omega)
      have r3 : b % k ≤ b := by
        rcases Int.lt_or_le b k with g | g
        · rw [Int.emod_eq_of_lt hb0 g]; omega
        · omega
      clear hcell
      go_enter Tryd.func16, Tryd.ntmps16
      go_wp2
      go_ret
      exact ⟨_, rfl, ⟨r1, by first | exact fun _ => r2 | exact r2, by omega⟩, Below.refl _ _⟩
end Go.Proofs.YtibbokllongomaaDoor
