/-
  Boxes of fractions that a walk keeps.
-/
import Derived.Test.YtlmmpeeacjbobaaRow
namespace Go.Proofs.Ytlmmpeeacjbobaa
open Go.RowKit

/-- Boxes of fractions that a walk keeps. -/
def Kp (w : World) (t : TypeId) (l : List (Nat × Int × Int)) : Prop := ∀ p ∈ l, Blk w p.1 t #[.int .i64 p.2.1, .int .i64 p.2.2]
theorem Kp.below {w w' : World} {t : TypeId} {l : List (Nat × Int × Int)} (h : Kp w t l) (hb : Below w.heap.size w w') : Kp w' t l := fun p hp => (h p hp).below hb (h p hp).lt
theorem Kp.box {w : World} {t : TypeId} {l : List (Nat × Int × Int)} (h : Kp w t l) (n d : Int) : Kp (w.alloc (.cells #[.int .i64 n, .int .i64 d] t)) t ((w.heap.size, n, d) :: l) := by
  intro p hp
  rcases List.mem_cons.1 hp with rfl | hp
  · exact Blk.new w t _
  · exact (h p hp).alloc _
theorem Kp.nil (w : World) (t : TypeId) : Kp w t [] := fun p hp => by simp at hp
theorem Kp.sub {w : World} {t : TypeId} {l l' : List (Nat × Int × Int)} (h : Kp w t l) (hs : ∀ p ∈ l', p ∈ l) : Kp w t l' := fun p hp => h p (hs p hp)
theorem Kp.at_ {w : World} {t : TypeId} {l : List (Nat × Int × Int)} (h : Kp w t l) (i : Nat) {g : Nat} {n d : Int} (hi : l[i]? = some (g, n, d)) : w.cell? ⟨g, 0, none⟩ = some (.int .i64 n) ∧ w.cell? ⟨g, 1, none⟩ = some (.int .i64 d) ∧ g < w.heap.size := by
  have b := h _ (List.mem_of_getElem? hi)
  exact ⟨b.cell 0, b.cell 1, b.lt⟩
end Go.Proofs.Ytlmmpeeacjbobaa
