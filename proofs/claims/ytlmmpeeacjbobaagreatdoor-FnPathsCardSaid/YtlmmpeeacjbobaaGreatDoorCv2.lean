/-
  All convergents: the reference's way.
-/
import Derived.Test.YtlmmpeeacjbobaaGreatDoorCnv
import Derived.Test.YtlmmpeeacjbobaaGreatDoorEx2
import Derived.Test.YtlmmpeeacjbobaaGreatDoorFr
namespace Go.Proofs.YtlmmpeeacjbobaaGreatDoor
open Go.RowKit

theorem own_litF (w : World) (e : TypeId) : (w.alloc (.cells #[] e)).ownsRow w.heap.size e 2 (.slice (some ⟨w.heap.size, 0, none⟩) 0 0) 0 [] :=
  World.ownsRow_lit w #[] 0 (Nat.le_refl _) (by simp [maxLen]) (by simp)
end Go.Proofs.YtlmmpeeacjbobaaGreatDoor
