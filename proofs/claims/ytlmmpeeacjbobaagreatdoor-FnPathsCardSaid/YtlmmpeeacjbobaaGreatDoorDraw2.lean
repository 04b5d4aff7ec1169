/-
  What the laws over draws share: the bytes that came in, and the laws' own small functions on them.
-/
import Derived.Test.YtlmmpeeacjbobaaGreatDoorDraw
import Derived.Test.YtlmmpeeacjbobaaGreatDoorLaw
namespace Go.Proofs.YtlmmpeeacjbobaaGreatDoor
open Go.RowKit

theorem byteRd_of_row {w : World} {a : Option Addr} {len cap : Nat} {zs : List Int} (h : IsRow .u8 w a len cap zs) : ByteRd w w.heap.size a len := by
  rcases h with ⟨rfl, rfl, rfl, rfl⟩ | ⟨x, rfl, hl, hm, hz, hcell, hwf⟩
  · exact .inl rfl
  · by_cases h0 : len = 0
    · exact .inl h0
    · obtain ⟨b, off, spot⟩ := x
      have hspot : spot = none := by
        have hc := hcell 0 (by omega)
        simpa [Addr.add] using World.cell?_spot hc
      subst hspot
      have hlt : b < w.heap.size := by
        have hc := hcell 0 (by omega)
        exact World.block_lt_of_cell? w _ hc
      refine .inr ⟨b, off, rfl, hlt, by omega, fun j hj => ?_⟩
      have hc := hcell j (by omega)
      have e1 : (⟨b, off, none⟩ : Addr).add j = ⟨b, off + j, none⟩ := by unfold Addr.add; by_cases h : j = 0 <;> simp [h]
      rw [e1] at hc
      have hw := bounds_u8 (hwf (zs.getD j 0) (by rw [List.getD_eq_getElem?_getD, List.getElem?_eq_getElem (by omega)]; exact List.getElem_mem _))
      exact ⟨_, hw, hc⟩
end Go.Proofs.YtlmmpeeacjbobaaGreatDoor
