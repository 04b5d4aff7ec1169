/-
  Appends whose source is whatever slice; slices.Grow of nil; slices.Concat of two; the reference's copies.
-/
import Derived.Test.YtlmmpeeacjbobaaGreatDoorInts
import Derived.Laws.AppendOwnNone
import Derived.Maps.AppendAt
import Derived.Lib.AppendZeros
namespace Go.Proofs.YtlmmpeeacjbobaaGreatDoor
open Go.RowKit

theorem own_lit00 (w : World) (e : TypeId) (size : Nat) : (w.alloc (.cells #[] e)).ownsRow w.heap.size e size (.slice (some ⟨w.heap.size, 0, none⟩) 0 0) 0 [] :=
  World.ownsRow_lit w #[] 0 (Nat.le_refl _) (by simp [maxLen]) (by simp)
theorem addr_addN (g of j : Nat) : (⟨g, of, none⟩ : Addr).add j = ⟨g, of + j, none⟩ := by unfold Addr.add; split <;> simp_all
theorem Tryz.zeroI : ∃ i, Tryz.prog.info? 2 = some i ∧ i.zero = some (.int .i64 0) ∧ i.size = 1 ∧ i.bytes = 8 := info_parts Tryz.infoI
/-- A slice that reads; a nil one has no room. -/
def Rs (w : World) (size : Nat) (v : Value) (n : Nat) (xs : List Value) : Prop := Rd w size v n xs ∧ ∀ m c, v = .slice none m c → c = 0
theorem Rs.of_own {w : World} {base : Nat} {e : TypeId} {size n : Nat} {v : Value} {xs : List Value} (h : w.ownsRow base e size v n xs) : Rs w size v n xs := by
  refine ⟨Rd.of_own h, ?_⟩
  intro m c hv
  rcases h.2 with ⟨rfl, rfl⟩ | ⟨g, cap, cur, rfl, _⟩
  · injection hv with _ _ h3; exact h3.symm
  · injection hv with h1; cases h1
theorem Rs.below {w w' : World} {B size n : Nat} {v : Value} {xs : List Value} (h : Rs w size v n xs) (hb : Below B w w') (hB : w.heap.size ≤ B) : Rs w' size v n xs := ⟨h.1.below hb hB, h.2⟩
theorem Rs.alloc {w : World} {size n : Nat} {v : Value} {xs : List Value} (h : Rs w size v n xs) (o : Obj) : Rs (w.alloc o) size v n xs := ⟨h.1.alloc o, h.2⟩
theorem Rs.grown {w w' : World} {row : Option Nat} {size n : Nat} {v : Value} {xs : List Value} (h : Rs w size v n xs) (hg : w.grownBy w' row) (hr : row = none ∨ row ≠ v.ownBlock) : Rs w' size v n xs := by
  refine ⟨?_, h.2⟩
  obtain ⟨A, c, hv, hn, hc, hl, hr2⟩ := h.1
  refine ⟨A, c, hv, hn, hc, hl, ?_⟩
  rcases hr2 with h0 | ⟨g, of, hA, hgl, hcell⟩
  · exact .inl h0
  · refine .inr ⟨g, of, hA, Nat.lt_of_lt_of_le hgl hg.size, fun j u hu => ?_⟩
    rw [← hcell j u hu]
    refine World.cell?_of_block (hg.block g hgl ?_)
    rw [hv, hA] at hr
    rcases hr with e | e
    · rw [e]; simp
    · exact fun e2 => e e2.symm
/-- append(s, x...) of integers: s is the call's own, x is whatever slice that reads. -/
theorem wp_appI {w : World} {ops : Array Oper} {rest : List Oper} {o : Oper} {a : Act} {Q : Exit → Act → World → Prop} (hgd : o.guard = none) (s x : Operand)
    (ho : o.op = .call { callee := .builtin .append, args := #[s, x], argTypes := #[24, 24] })
    (base : Nat) (v vx : Value) (n m : Nat) (xs ys : List Int) (hs : a.eval s = v) (hown : w.ownsRow base 2 1 v n (ints xs))
    (hx : a.eval x = vx) (hS : Rs w 1 vx m (ints ys)) (hb : (n + m) * 8 ≤ 140737488355328) (hbase : base ≤ w.heap.size)
    (h : ∀ v' w', w'.ownsRow base 2 1 v' (n + m) (ints (xs ++ ys)) → w.grownBy w' v.ownBlock → (v'.ownBlock = v.ownBlock ∨ v'.ownBlock = some w.heap.size) → wpList Tryz.prog ops Q rest (a.put o.dst v') w') :
    wpList Tryz.prog ops Q (o :: rest) a w := by
  obtain ⟨i, hi, hz, hsz, hby⟩ := Tryz.zeroI
  obtain ⟨⟨A, c, rfl, hn, hc, hl, hr⟩, hN⟩ := hS
  have hxy : ints (xs ++ ys) = ints xs ++ ints ys := by simp [ints]
  cases A with
  | none =>
    have h0 : m = 0 := by
      rcases hr with h0 | ⟨_, _, e, _⟩
      · exact h0
      · cases e
    subst h0
    have hy : ys = [] := by
      rw [ints_len] at hl
      exact List.length_eq_zero_iff.1 (by omega)
    subst hy
    have hc0 := hN _ _ rfl
    subst hc0
    refine wpList_append_own_none hgd s x 24 ho base 2 i 1 Tryz.underlying24 hi v n (ints xs) hs hown hx ?_
    exact h v w (by simpa using hown) (World.grownBy.refl _ _) (.inl rfl)
  | some ad =>
    have had : ∀ j u, (ints ys)[j]? = some u → w.cell? (ad.add j) = some u := by
      rcases hr with h0 | ⟨g, of, e, _, hcell⟩
      · subst h0
        have hy : ys = [] := by
          rw [ints_len] at hl
          exact List.length_eq_zero_iff.1 (by omega)
        subst hy
        intro j u hu
        simp [ints] at hu
      · injection e with e
        subst e
        intro j u hu
        rw [addr_addN]
        exact hcell j u hu
    refine wpList_append_own_at w hgd s x 24 ho base 2 i _ 1 8 Tryz.underlying24 hi hz hsz hby rfl (by decide) v n (ints xs) hs hown ad m c (ints ys) hx (by rw [hl]) had (ints_one ys) (by simp only [maxLen]; omega) hb hbase ?_
    intro v' w' h1 h2 h3 h4
    rw [← hxy] at h1
    exact h v' w' h1 h2 h4
end Go.Proofs.YtlmmpeeacjbobaaGreatDoor
