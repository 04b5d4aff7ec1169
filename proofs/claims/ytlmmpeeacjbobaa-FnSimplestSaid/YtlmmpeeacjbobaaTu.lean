/-
  Parents of children, levels of parents, bounds of paths: plain facts.
-/
import Derived.Test.YtlmmpeeacjbobaaTs
namespace Go.Proofs.Ytlmmpeeacjbobaa
open Go.RowKit

theorem mtx_last (i : List Int) (t : Int) : mtx (i ++ [t]) = ((t * (mtx i).1.1 + (mtx i).2.1, t * (mtx i).1.2 + (mtx i).2.2), (mtx i).1) := by
  rw [mtx_snoc]; rfl
theorem hd_nn {i : List Int} {l : Int} (h : Nrm i l) : 0 ≤ (mtx i).1.1 ∧ 0 ≤ (mtx i).1.2 ∧ 0 ≤ (mtx i).2.1 ∧ 0 ≤ (mtx i).2.2 := mtx_nn h.hd
/-- The value of a path's terms is the sum of its matrix' two fractions. -/
theorem path_sum {i : List Int} {l : Int} (h : Nrm i l) : (mtx (i ++ [l])).1 = ((mtx (pthL i l)).1.1 + (mtx (pthL i l)).2.1, (mtx (pthL i l)).1.2 + (mtx (pthL i l)).2.2) := by
  unfold pthL
  by_cases e : l = 1
  · subst e
    have hi : i = [] := by
      by_cases e : i = []
      · exact e
      · have := h.two e; omega
    subst hi
    rw [if_pos rfl]
    simp [mtx, mtS]
  · rw [if_neg e, mtx_last, mtx_last]
    simp only
    refine Prod.ext ?_ ?_ <;> simp only <;> grind
/-- The path of the parent, and what it says of the level. -/
theorem short_ok {i : List Int} {l : Int} (E : ExL i l) (hl : l ≠ 1) (h1 : (mtx (i ++ [l])).1.1 ≤ 1000000000) (h2 : (mtx (i ++ [l])).1.2 ≤ 1000000000) :
    okR (shtL i l) = true ∧ faB (shtL i l) = true ∧ (shtL i l).sum + 1 = (pthL i l).sum := by
  have hN := E.nrm
  have l2 : 2 ≤ l := by have := hN.pos; omega
  have ht := E.top
  obtain ⟨a1, a2, a3, a4⟩ := hd_nn hN
  have hs : (pthL i l).sum = i.sum + (l - 1) := by unfold pthL; rw [if_neg hl]; simp
  rw [hs]
  rw [mtx_last] at h1 h2
  simp only at h1 h2
  unfold shtL
  by_cases h3 : 2 < l
  · rw [if_pos h3]
    have hN' : Nrm i (l - 1) := ⟨E.nrm.hd, E.tl, fun _ => by omega, fun _ => by omega⟩
    refine ⟨okR_snoc.2 ⟨fun t ht => by have := E.hd t ht; omega, E.tl, by omega, E.len⟩, ?_, by simp; omega⟩
    obtain ⟨_, e2⟩ := fa_snoc i (l - 2)
    rw [e2, show l - 2 + 1 = l - 1 by omega]
    have m1 : (l - 1) * (mtx i).1.1 = l * (mtx i).1.1 - (mtx i).1.1 := by rw [Int.sub_mul, Int.one_mul]
    have m2 : (l - 1) * (mtx i).1.2 = l * (mtx i).1.2 - (mtx i).1.2 := by rw [Int.sub_mul, Int.one_mul]
    rw [ca_nrm hN' (by rw [mtx_last]; simp only; omega) (by rw [mtx_last]; simp only; omega)]
  · obtain rfl : l = 2 := by omega
    rw [if_neg h3]
    by_cases hi : i = [0]
    · subst hi
      rw [if_pos rfl]
      exact ⟨by decide, by decide, by decide⟩
    · rw [if_neg hi]
      by_cases e : i = []
      · subst e
        exact ⟨by decide, by decide, by decide⟩
      · obtain ⟨j, m, rfl⟩ := snoc_of e
        have hj : ∀ t ∈ j, 0 ≤ t ∧ t ≤ 500000000 := fun t ht => E.hd t (List.mem_append.2 (.inl ht))
        have hm := E.hd m (List.mem_append.2 (.inr (by simp)))
        have hj2 : ∀ t ∈ j.drop 1, 1 ≤ t := fun t ht => E.tl t (by
          cases j with
          | nil => simp at ht
          | cons y j => simp at ht ⊢; exact .inl ht)
        have hm2 : 1 ≤ m := by
          by_cases e : j = []
          · subst e
            have : m ≠ 0 := fun e => hi (by rw [e]; rfl)
            omega
          · obtain ⟨y, j', rfl⟩ := List.exists_cons_of_ne_nil e
            exact E.tl m (by simp)
        have hlen := E.len
        rw [List.length_append, List.length_singleton] at hlen
        refine ⟨okR_snoc.2 ⟨fun t ht => by have := hj t ht; omega, hj2, by omega, by omega⟩, ?_, by simp⟩
        have hN' : Nrm j (m + 1) := ⟨fun t ht => (hj t ht).1, hj2, fun _ => by omega, fun _ => by omega⟩
        obtain ⟨_, e2⟩ := fa_snoc j m
        rw [e2]
        obtain ⟨b1, b2, b3, b4⟩ := hd_nn hN'
        rw [mtx_last] at h1 h2 a1 a2
        simp only at h1 h2 a1 a2
        have m1 : (m + 1) * (mtx j).1.1 = m * (mtx j).1.1 + (mtx j).1.1 := by rw [Int.add_mul, Int.one_mul]
        have m2 : (m + 1) * (mtx j).1.2 = m * (mtx j).1.2 + (mtx j).1.2 := by rw [Int.add_mul, Int.one_mul]
        rw [ca_nrm hN' (by rw [mtx_last]; simp only; omega) (by rw [mtx_last]; simp only; omega)]
theorem last_or {i : List Int} {l : Int} {n d : Int} (h : posC n d = 0) (hL : exF 60 n d = i ++ [l]) : (mtx (i ++ [l])).1 = (n, d) ∧ n ≤ 1000000000 ∧ d ≤ 1000000000 := by
  obtain ⟨hok, ⟨n1, n2⟩, d1, d2⟩ := pos_facts h
  have := ex_value hok n1
  rw [hL] at this
  exact ⟨this, n2, d2⟩
/-- The level of a fraction is that of its parent and 1. -/
theorem parent_level {n d : Int} (h : (paM n d).2.2 = 0) : posC n d = 0 ∧ posC (paM n d).1 (paM n d).2.1 = 0 ∧ (ptP n d).sum = (ptP (paM n d).1 (paM n d).2.1).sum + 1 := by
  by_cases hp : posC n d = 0
  · obtain ⟨hok, ⟨n1, n2⟩, d1, d2⟩ := pos_facts hp
    obtain ⟨i, l, hL, E⟩ := ex_all n1 n2 d1 d2
    obtain ⟨v, v1, v2⟩ := last_or hp hL
    rw [pa_of hp hL] at h ⊢
    by_cases hl : l = 1
    · rw [if_pos hl] at h; simp at h
    · rw [if_neg hl]
      simp only
      obtain ⟨s1, s2, s3⟩ := short_ok E hl (by rw [v]; exact v1) (by rw [v]; exact v2)
      obtain ⟨f1, f2⟩ := fp_path s1 s2
      rw [pt_of hp hL, f2]
      exact ⟨hp, f1, by omega⟩
  · unfold paM at h; rw [if_neg hp] at h; exact absurd h hp
/-- The parent of a fraction whose terms are known. -/
theorem parent_of {i : List Int} {l : Int} (hN : Nrm i l) (h1 : (mtx (i ++ [l])).1.1 ≤ 1000000000) (h2 : (mtx (i ++ [l])).1.2 ≤ 1000000000) (hl : l ≠ 1) :
    posC (mtx (i ++ [l])).1.1 (mtx (i ++ [l])).1.2 = 0 ∧ paM (mtx (i ++ [l])).1.1 (mtx (i ++ [l])).1.2 = ((faM (shtL i l)).1, (faM (shtL i l)).2, 0) := by
  obtain ⟨p1, p2⟩ := nrm_path hN h1 h2
  exact ⟨p1, by rw [pa_of p1 p2, if_neg hl]⟩
/-- Both children have the fraction as their parent. -/
theorem child_parent {n d : Int} (h : posC n d = 0) : n = (mtx (ptP n d)).1.1 + (mtx (ptP n d)).2.1 ∧ d = (mtx (ptP n d)).1.2 + (mtx (ptP n d)).2.2 ∧
    (okF (n + (mtx (ptP n d)).1.1) (d + (mtx (ptP n d)).1.2) = true → paM (n + (mtx (ptP n d)).1.1) (d + (mtx (ptP n d)).1.2) = (n, d, 0)) ∧
    (okF (n + (mtx (ptP n d)).2.1) (d + (mtx (ptP n d)).2.2) = true → paM (n + (mtx (ptP n d)).2.1) (d + (mtx (ptP n d)).2.2) = (n, d, 0)) ∧
    Int.gcd (n + (mtx (ptP n d)).1.1) (d + (mtx (ptP n d)).1.2) = 1 ∧ Int.gcd (n + (mtx (ptP n d)).2.1) (d + (mtx (ptP n d)).2.2) = 1 ∧
    0 ≤ (mtx (ptP n d)).1.1 ∧ 0 ≤ (mtx (ptP n d)).1.2 ∧ 0 ≤ (mtx (ptP n d)).2.1 ∧ 0 ≤ (mtx (ptP n d)).2.2 := by
  obtain ⟨hok, ⟨n1, n2⟩, d1, d2⟩ := pos_facts h
  obtain ⟨i, l, hL, E⟩ := ex_all n1 n2 d1 d2
  obtain ⟨v, _, _⟩ := last_or h hL
  have hN := E.nrm
  have hsum := path_sum hN
  rw [v] at hsum
  rw [pt_of h hL]
  have hnn := mtx_nn (a := pthL i l) (by
    unfold pthL
    split
    · simp
    · intro t ht
      have := hN.pos
      rcases List.mem_append.1 ht with e | e
      · exact hN.hd t e
      · rw [List.mem_singleton] at e; omega)
  obtain ⟨e1, e2⟩ := Prod.mk.injEq .. ▸ hsum
  refine ⟨e1, e2, ?_⟩
  by_cases hl : l = 1
  · subst hl
    have hi : i = [] := by
      by_cases e : i = []
      · exact e
      · have := hN.two e; omega
    subst hi
    have : pthL [] 1 = [] := rfl
    rw [this] at e1 e2 ⊢
    have z : mtx [] = ((1, 0), (0, 1)) := rfl
    rw [z] at e1 e2 ⊢
    simp only at e1 e2 ⊢
    have : n = 1 := by omega
    have : d = 1 := by omega
    subst n d
    exact ⟨fun _ => by decide +kernel, fun _ => by decide +kernel, by decide, by decide, by omega, by omega, by omega, by omega⟩
  · have l2 : 2 ≤ l := by have := hN.pos; omega
    have ep : pthL i l = i ++ [l - 1] := by unfold pthL; rw [if_neg hl]
    rw [ep] at hnn ⊢
    rw [ep, mtx_last] at e1 e2
    simp only at e1 e2
    have hback : faM (i ++ [l - 1]) = (n, d) := by
      have := (path_back h).2.2
      rwa [pt_of h hL, ep] at this
    -- the child that turns
    have hA : Nrm (i ++ [l - 1]) 2 := by
      refine ⟨fun t ht => ?_, fun t ht => ?_, fun _ => by omega, fun _ => by omega⟩
      · rcases List.mem_append.1 ht with e | e
        · exact hN.hd t e
        · rw [List.mem_singleton] at e; omega
      · cases i with
        | nil => simp at ht
        | cons y i =>
          simp only [List.cons_append, List.drop_one, List.tail_cons] at ht
          rcases List.mem_append.1 ht with e | e
          · exact hN.tl t (by simpa using e)
          · rw [List.mem_singleton] at e; omega
    -- the child that goes on
    have hB : Nrm i (l + 1) := ⟨hN.hd, hN.tl, fun _ => by omega, fun _ => by omega⟩
    have vA : (mtx (i ++ [l - 1] ++ [2])).1 = (n + (mtx (i ++ [l - 1])).1.1, d + (mtx (i ++ [l - 1])).1.2) := by
      rw [mtx_last, mtx_last]
      simp only
      refine Prod.ext ?_ ?_ <;> simp only <;> omega
    have vB : (mtx (i ++ [l + 1])).1 = (n + (mtx (i ++ [l - 1])).2.1, d + (mtx (i ++ [l - 1])).2.2) := by
      rw [mtx_last, mtx_last]
      simp only
      have m1 : (l + 1) * (mtx i).1.1 = (l - 1) * (mtx i).1.1 + 2 * (mtx i).1.1 := by rw [← Int.add_mul]; congr 1; omega
      have m2 : (l + 1) * (mtx i).1.2 = (l - 1) * (mtx i).1.2 + 2 * (mtx i).1.2 := by rw [← Int.add_mul]; congr 1; omega
      refine Prod.ext ?_ ?_ <;> simp only <;> omega
    have gA := mtx_gcd (i ++ [l - 1] ++ [2])
    have gB := mtx_gcd (i ++ [l + 1])
    rw [vA] at gA
    rw [vB] at gB
    refine ⟨fun hk => ?_, fun hk => ?_, gA, gB, hnn⟩
    · obtain ⟨k1, k2, k3, k4⟩ := okF_bd hk
      have hp := (parent_of hA (by rw [vA]; exact k4) (by rw [vA]; exact k2) (by omega)).2
      rw [vA] at hp
      simp only at hp
      rw [hp]
      have hs : shtL (i ++ [l - 1]) 2 = i ++ [l - 1] := by
        unfold shtL
        rw [if_neg (by omega), if_neg ?_]
        intro e
        cases i with
        | nil => simp at e; omega
        | cons y i => simp at e
      rw [hs, hback]
    · obtain ⟨k1, k2, k3, k4⟩ := okF_bd hk
      have hp := (parent_of hB (by rw [vB]; exact k4) (by rw [vB]; exact k2) (by omega)).2
      rw [vB] at hp
      simp only at hp
      rw [hp]
      have hs : shtL i (l + 1) = i ++ [l - 1] := by
        unfold shtL
        rw [if_pos (by omega), show l + 1 - 2 = l - 1 by omega]
      rw [hs, hback]
end Go.Proofs.Ytlmmpeeacjbobaa
