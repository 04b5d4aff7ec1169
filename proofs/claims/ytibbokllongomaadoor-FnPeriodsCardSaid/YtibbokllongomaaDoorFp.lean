/-
  The terms of a surd that is made of a drawn head and a drawn period.
-/
import Derived.Test.YtibbokllongomaaDoorSf1
import Derived.Test.YtibbokllongomaaDoorTs
namespace Go.Proofs.YtibbokllongomaaDoor
open Go.RowKit

theorem okU_all {d : Int} {o : Nat → Int × Int} (h : ∀ k, okX d (o k) = true) : ∀ n, okU d o n = true
  | 0 => rfl
  | n + 1 => by unfold okU; rw [okU_all h n, h n]; rfl
/-- What a draw of a head and a period holds. -/
structure PdD (hs ls : List Int) : Prop where
  l1 : 1 ≤ ls.length ∧ ls.length ≤ 4
  l2 : ∀ t ∈ ls, 1 ≤ t ∧ t ≤ 60
  h1 : hs.length ≤ 6
  h2 : ∀ t ∈ hs, -10 ≤ t ∧ t ≤ 60
  h3 : ∀ t ∈ hs.drop 1, 1 ≤ t
theorem PdD.pd {hs ls : List Int} (D : PdD hs ls) : pdB hs ls = true := by
  obtain ⟨⟨a1, a2⟩, b, c1, c2, c3⟩ := D
  unfold pdB
  obtain ⟨x, l', rfl⟩ := List.exists_cons_of_length_pos (show 0 < ls.length by omega)
  have hx := b x (by simp)
  rw [Bool.and_eq_true, Bool.and_eq_true, decide_eq_true_eq, decide_eq_true_eq, tms_iff]
  refine ⟨⟨a1, by simp; omega⟩, ⟨by rw [List.length_append]; omega, ?_⟩, ?_, ?_⟩
  · rw [List.length_append]; omega
  · cases hs with
    | nil => simp only [List.nil_append, List.getD_cons_zero]; omega
    | cons y hs => have := c2 y (by simp); simp only [List.cons_append, List.getD_cons_zero]; omega
  · intro t ht
    cases hs with
    | nil =>
      simp only [List.nil_append, List.drop_one, List.tail_cons] at ht
      have := b t (List.mem_cons_of_mem _ ht); omega
    | cons y hs =>
      simp only [List.cons_append, List.drop_one, List.tail_cons] at ht c3
      rcases List.mem_append.1 ht with e | e
      · have := c2 t (List.mem_cons_of_mem _ e); have := c3 t e; omega
      · have := b t e; omega
theorem pd_law {hs ls : List Int} (D : PdD hs ls) : (sfM hs ls).2 = 5 ∨ ((sfM hs ls).2 = 0 ∧ okS (sfM hs ls).1.1 (sfM hs ls).1.2.1 (sfM hs ls).1.2.2 = true ∧
    tsM (sfM hs ls).1.1 (sfM hs ls).1.2.1 (sfM hs ls).1.2.2 ((hs.length + ls.length * 3 : Nat) : Int) = (hs ++ ls ++ ls ++ ls, 0)) := by
  have hp := D.pd
  obtain ⟨⟨a1, a2⟩, b, c1, c2, c3⟩ := D
  unfold sfM
  rw [hp, if_pos rfl]
  split
  · split
    · rename_i y hy
      right
      refine ⟨rfl, ?_⟩
      obtain ⟨t1, t2⟩ := sf_terms (by intro e; rw [e] at a1; simp at a1) (fun t ht => (b t ht).1) c3 hy 3
      have h0 := t2 0
      have ho : okS y.1 (puD (mtx ls)) y.2 = true := h0
      refine ⟨ho, ?_⟩
      simp only
      unfold tsM
      rw [if_pos ho, if_pos (inB_iff.2 ⟨by omega, by omega⟩), Int.toNat_natCast, if_pos (okU_all t2 _)]
      have t3 : tmL (puD (mtx ls)) (orb (puD (mtx ls)) (y.1, y.2)) (hs.length + ls.length * 3) = _ := t1
      rw [t3]
      simp [List.replicate, List.append_assoc]
    · left; rfl
  · left; rfl
end Go.Proofs.YtibbokllongomaaDoor
