/-
  The head and the period of a surd: the reference's copies.
-/
import Derived.Test.YtibbokllongomaaDoorPr2
import Derived.Deep.RegionHeld3
namespace Go.Proofs.YtibbokllongomaaDoor
open Go.RowKit

theorem own_lit0 (w : World) (e : TypeId) (size : Nat) : (w.alloc (.cells #[] e)).ownsRow w.heap.size e size (.slice (some ⟨w.heap.size, 0, none⟩) 0 0) 0 [] :=
  World.ownsRow_lit w #[] 0 (Nat.le_refl _) (by simp [maxLen]) (by simp)
theorem addr_add (g of j : Nat) : (⟨g, of, none⟩ : Addr).add j = ⟨g, of + j, none⟩ := by unfold Addr.add; split <;> simp_all
set_option maxHeartbeats 1000000 in
theorem l00Own_any (g of m c : Nat) (zs : List Int) (w : World) (hl : zs.length = m) (hm : m ≤ 1000) (hcell : ∀ j u, (ints zs)[j]? = some u → w.cell? ⟨g, of + j, none⟩ = some u) (hg : g < w.heap.size) :
    Calls Tryd.prog 89 #[.slice (some ⟨g, of, none⟩) m c] w (RetRow w 2 1 m (ints zs)) := by
  obtain ⟨i1, hi1, hy0, hy1, hy2⟩ := info_parts Tryd.infoI
  have hnews : ∀ j u, (ints zs)[j]? = some u → (w.alloc (.cells #[] 2)).cell? ((⟨g, of, none⟩ : Addr).add j) = some u := by
    intro j u hu
    rw [addr_add, World.cell?_alloc_lt w _ _ (by simpa using hg)]
    exact hcell j u hu
  have hlen : (ints zs).length = m * 1 := by rw [ints_len, hl, Nat.mul_one]
  have hone := ints_one zs
  have H1 := Lib.hid hnews
  have H2 := Lib.hid hlen
  have H3 := Lib.hid hone
  clear hnews hlen hone hcell hl
  go_enter Tryd.func89, Tryd.ntmps89
  go_wp2_with (at_builtin; refine wpList_append_own_at _ rfl (.tmp 3) (.tmp 4) 24 rfl w.heap.size 2 i1 _ 1 8 Tryd.underlying24 hi1 hy0 hy1 hy2 rfl (by decide) _ 0 [] rfl (own_lit0 w _ _) ⟨g, of, none⟩ m c (ints zs) rfl H2.out H1.out H3.out (by simp only [maxLen]; omega) (by omega) (by simp) ?_; intro v1 w1 hown1 hgr1 _ hat1)
  go_ret
  refine ⟨v1, rfl, by simpa using hown1, ?_⟩
  exact ((Below.refl _ _).alloc (Nat.le_refl _) _).grown hgr1 (by simp) (fun k hk => by have e : some w.heap.size = some k := hk; injection e with e; omega)
end Go.Proofs.YtibbokllongomaaDoor
