/-
  The fraction one step before another one: both packages' ways.
-/
import Derived.Test.YtlmmpeeacjbobaaGreatDoorPg
import Derived.Test.YtlmmpeeacjbobaaGreatDoorPc
namespace Go.Proofs.YtlmmpeeacjbobaaGreatDoor
open Go.RowKit

def faM (s : List Int) : Int × Int := if s = [] then (1, 1) else ((caM (s.dropLast ++ [s.getLastD 0 + 1])).1, (caM (s.dropLast ++ [s.getLastD 0 + 1])).2.1)
def faB (s : List Int) : Bool := if s = [] then true else (caM (s.dropLast ++ [s.getLastD 0 + 1])).2.2
def FaS (s : List Int) : Prop := s = [] ∨ ∃ i l, s = i ++ [l] ∧ (-1000000000 ≤ l ∧ l ≤ 1000000000) ∧ tmsB (i ++ [l + 1]) = true
theorem fa_snoc (i : List Int) (l : Int) : faM (i ++ [l]) = ((caM (i ++ [l + 1])).1, (caM (i ++ [l + 1])).2.1) ∧ faB (i ++ [l]) = (caM (i ++ [l + 1])).2.2 := by
  unfold faM faB
  rw [if_neg (by simp), if_neg (by simp), List.dropLast_concat]
  simp
theorem tms_snoc {i : List Int} {x : Int} (h1 : ∀ t ∈ i, -1000000000 ≤ t ∧ t ≤ 1000000000) (h2 : ∀ t ∈ i.drop 1, 1 ≤ t) (x1 : -1000000000 ≤ x) (x2 : x ≤ 1000000000) (hx : i ≠ [] → 1 ≤ x) (hl : i.length + 1 ≤ 60) : tmsB (i ++ [x]) = true := by
  rw [tms_iff]
  refine ⟨⟨by simp, by simp; omega⟩, ?_, ?_⟩
  · cases i with
    | nil => simp; omega
    | cons y i => simpa using h1 y (by simp)
  · intro t ht
    cases i with
    | nil => simp at ht
    | cons y i =>
      have := hx (by simp)
      simp only [List.cons_append, List.drop_one, List.tail_cons] at ht
      rcases List.mem_append.1 ht with e | e
      · have a := h1 t (List.mem_cons_of_mem _ e)
        have b := h2 t (by simpa using e)
        omega
      · rw [List.mem_singleton] at e; omega
theorem sht_fa {i : List Int} {l : Int} (E : ExL i l) (h : l ≠ 1) : FaS (shtL i l) := by
  obtain ⟨e1, e2, e3, e4, e5, e6⟩ := E
  have l2 : 2 ≤ l := by
    by_cases h : i = []
    · have := e3 h; omega
    · exact e4 h
  unfold shtL
  by_cases hl : 2 < l
  · rw [if_pos hl]
    refine .inr ⟨i, l - 2, rfl, by omega, tms_snoc (fun t ht => by have := e1 t ht; omega) e2 (by omega) (by omega) (fun _ => by omega) e6⟩
  · rw [if_neg hl]
    by_cases h0 : i = [0]
    · rw [if_pos h0]; exact .inl rfl
    · rw [if_neg h0]
      rcases List.eq_nil_or_concat i with rfl | ⟨j, x, rfl⟩
      · exact .inl rfl
      · rw [List.concat_eq_append] at *
        have hx := e1 x (by simp)
        refine .inr ⟨j, x, rfl, by omega, tms_snoc (fun t ht => by have := e1 t (List.mem_append_left _ ht); omega) (fun t ht => e2 t ?_) (by omega) (by omega) (fun _ => by omega) (by simp at e6; omega)⟩
        cases j with
        | nil => simp at ht
        | cons y j => simp only [List.cons_append, List.drop_one, List.tail_cons] at ht ⊢; exact List.mem_append_left _ ht
/-- The trimmed row of a path whose last run is one less. -/
theorem trl_sht {i : List Int} {l : Int} (E : ExL i l) (h : l ≠ 1) : trL (i ++ [l - 2]) = shtL i l := by
  obtain ⟨e1, e2, e3, e4, e5, e6⟩ := E
  have l2 : 2 ≤ l := by
    by_cases h : i = []
    · have := e3 h; omega
    · exact e4 h
  have hlen : (i ++ [l - 2]).length = i.length + 1 := by simp
  have hlast : (i ++ [l - 2]).getD i.length 0 = l - 2 := by rw [List.getD_eq_getElem?_getD]; simp
  unfold trL shtL
  rw [hlen]
  by_cases hl : 2 < l
  · rw [if_pos hl]
    have : trN (i ++ [l - 2]) (i.length + 1) = i.length + 1 := by
      show (if (i ++ [l - 2]).getD i.length 0 = 0 then _ else _) = _
      rw [hlast, if_neg (by omega)]
    rw [this, List.take_of_length_le (by omega)]
  · rw [if_neg hl]
    have h2 : trN (i ++ [l - 2]) (i.length + 1) = trN (i ++ [l - 2]) i.length := by
      show (if (i ++ [l - 2]).getD i.length 0 = 0 then _ else _) = _
      rw [hlast, if_pos (by omega)]
    rw [h2]
    rcases List.eq_nil_or_concat i with rfl | ⟨j, x, rfl⟩
    · rfl
    · rw [List.concat_eq_append] at *
      have hjl : (j ++ [x]).length = j.length + 1 := by simp
      have hg : ((j ++ [x]) ++ [l - 2]).getD j.length 0 = x := by rw [List.getD_eq_getElem?_getD, List.append_assoc]; simp
      rw [hjl]
      by_cases hx : x = 0
      · subst hx
        have hj : j = [] := by
          cases j with
          | nil => rfl
          | cons y j => exact absurd (e2 0 (by simp)) (by omega)
        subst hj
        have : l = 2 := by omega
        subst this
        rfl
      · have h3 : trN (j ++ [x] ++ [l - 2]) (j.length + 1) = j.length + 1 := by
          show (if ((j ++ [x]) ++ [l - 2]).getD j.length 0 = 0 then _ else _) = _
          rw [hg, if_neg hx]
        rw [h3, if_neg (by
          intro e
          cases j with
          | nil => simp at e; exact hx e
          | cons y j => simp at e)]
        rw [List.take_append_of_le_length (by omega), List.take_of_length_le (by omega)]
def paM (n d : Int) : Int × Int × Int :=
  if posC n d = 0 then (if (exF 60 n d).getLastD 0 = 1 then (0, 0, 3) else ((faM (shtL (exF 60 n d).dropLast ((exF 60 n d).getLastD 0))).1, (faM (shtL (exF 60 n d).dropLast ((exF 60 n d).getLastD 0))).2, 0)) else (0, 0, posC n d)
theorem pa_of {n d : Int} {i : List Int} {l : Int} (h : posC n d = 0) (hL : exF 60 n d = i ++ [l]) : paM n d = if l = 1 then (0, 0, 3) else ((faM (shtL i l)).1, (faM (shtL i l)).2, 0) := by
  unfold paM
  rw [if_pos h, hL, List.dropLast_concat]
  simp
theorem pos_facts {n d : Int} (h : posC n d = 0) : okF n d = true ∧ (1 ≤ n ∧ n ≤ 1000000000) ∧ (1 ≤ d ∧ d ≤ 1000000000) := by
  unfold posC at h
  by_cases h1 : okF n d = true
  · rw [if_pos h1] at h
    by_cases h2 : 1 ≤ n
    · obtain ⟨a, b, _⟩ := okF_iff.1 h1
      exact ⟨h1, ⟨h2, b.2⟩, a⟩
    · rw [if_neg h2] at h; cases h
  · rw [if_neg h1] at h; cases h
end Go.Proofs.YtlmmpeeacjbobaaGreatDoor
