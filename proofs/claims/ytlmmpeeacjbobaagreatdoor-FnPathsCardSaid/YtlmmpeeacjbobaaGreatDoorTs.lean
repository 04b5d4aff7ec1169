/-
  Paths there and back; parents of children; levels of parents.
-/
import Derived.Test.YtlmmpeeacjbobaaGreatDoorTr
namespace Go.Proofs.YtlmmpeeacjbobaaGreatDoor
open Go.RowKit

theorem fitN_all {l : List Int} : ∀ {n : Nat}, (∀ k, 1 ≤ k → k ≤ n → fitE (mtx (l.take k)) = true) → fitN l n = true
  | 0, _ => rfl
  | n + 1, h => by
    unfold fitN
    rw [fitN_all (fun k h1 h2 => h k h1 (by omega)), h (n + 1) (by omega) (Nat.le_refl _)]
    rfl
theorem nrm_mem {i : List Int} {l : Int} (h : Nrm i l) : (∀ t ∈ i ++ [l], 0 ≤ t) ∧ ∀ t ∈ (i ++ [l]).drop 1, 1 ≤ t := by
  have hp := h.pos
  refine ⟨fun t ht => ?_, fun t ht => ?_⟩
  · rcases List.mem_append.1 ht with e | e
    · exact h.hd t e
    · rw [List.mem_singleton] at e; omega
  · cases i with
    | nil => simp at ht
    | cons y i =>
      simp only [List.cons_append, List.drop_one, List.tail_cons] at ht
      rcases List.mem_append.1 ht with e | e
      · exact h.tl t (by simpa using e)
      · rw [List.mem_singleton] at e; omega
theorem mtx_grow {a b : List Int} (ha : ∀ t ∈ a, 0 ≤ t) (hb : ∀ t ∈ b, 1 ≤ t) : (mtx a).1.1 ≤ (mtx (a ++ b)).1.1 ∧ (mtx a).1.2 ≤ (mtx (a ++ b)).1.2 := by
  obtain ⟨a1, a2, a3, a4⟩ := mtx_nn ha
  by_cases e : b = []
  · subst e; rw [List.append_nil]; omega
  · obtain ⟨b1, b2⟩ : 1 ≤ (mtx b).1.1 ∧ 0 ≤ (mtx b).1.2 := by
      have h2 := mtx_nn (a := b) (fun t ht => by have := hb t ht; omega)
      obtain ⟨t, ts, rfl⟩ := List.exists_cons_of_ne_nil e
      have hts := mtx_nn (a := ts) (fun s hs => by have := hb s (List.mem_cons_of_mem _ hs); omega)
      refine ⟨?_, h2.2.1⟩
      have ht := hb t (by simp)
      by_cases e2 : ts = []
      · subst e2; rw [(mtx_one1 t).1]; exact ht
      · have := pos_mtx e2 (fun s hs => hb s (List.mem_cons_of_mem _ hs))
        have hp : 1 ≤ (mtx ts).1.1 := by
          obtain ⟨h1, h2, h3, h4, _⟩ := this
          omega
        rw [mtx_cons]
        simp only
        have := Int.mul_le_mul ht hp (by omega) (by omega)
        omega
    rw [mtx_app]
    simp only
    have m1 := Int.mul_le_mul_of_nonneg_left b1 a1
    have m2 := Int.mul_le_mul_of_nonneg_left b1 a2
    have m3 := Int.mul_nonneg a3 b2
    have m4 := Int.mul_nonneg a4 b2
    omega
theorem fit_nrm {i : List Int} {l : Int} (h : Nrm i l) (h1 : (mtx (i ++ [l])).1.1 ≤ 1000000000) (h2 : (mtx (i ++ [l])).1.2 ≤ 1000000000) : fitL (i ++ [l]) = true := by
  obtain ⟨m1, m2⟩ := nrm_mem h
  refine fitN_all (fun k k1 k2 => ?_)
  have e := List.take_append_drop k (i ++ [l])
  have ha : ∀ t ∈ (i ++ [l]).take k, 0 ≤ t := fun t ht => m1 t (List.mem_of_mem_take ht)
  have hb : ∀ t ∈ (i ++ [l]).drop k, 1 ≤ t := fun t ht => m2 t (by
    have e2 : (i ++ [l]).drop k = ((i ++ [l]).drop 1).drop (k - 1) := by rw [List.drop_drop]; congr 1; omega
    rw [e2] at ht
    exact List.mem_of_mem_drop ht)
  have g := mtx_grow ha hb
  rw [e] at g
  have nn := mtx_nn ha
  unfold fitE
  rw [Bool.and_eq_true, inB_iff, inB_iff]
  omega
theorem ca_nrm {i : List Int} {l : Int} (h : Nrm i l) (h1 : (mtx (i ++ [l])).1.1 ≤ 1000000000) (h2 : (mtx (i ++ [l])).1.2 ≤ 1000000000) : caM (i ++ [l]) = ((mtx (i ++ [l])).1.1, (mtx (i ++ [l])).1.2, true) := by
  unfold caM
  rw [if_pos (fit_nrm h h1 h2)]
theorem okR_snoc {j : List Int} {m : Int} : okR (j ++ [m]) = true ↔ (∀ t ∈ j, 0 ≤ t ∧ t ≤ 1000000000) ∧ (∀ t ∈ j.drop 1, 1 ≤ t) ∧ (1 ≤ m ∧ m ≤ 1000000000) ∧ j.length + 1 ≤ 60 := by
  unfold okR
  rw [Bool.and_eq_true, decide_eq_true_eq, decide_eq_true_eq, List.length_append, List.length_singleton]
  have hg : ∀ t, t < j.length → (j ++ [m]).getD t 0 = j.getD t 0 := fun t ht => by
    rw [List.getD_eq_getElem?_getD, List.getD_eq_getElem?_getD, List.getElem?_append_left ht]
  have hm : (j ++ [m]).getD j.length 0 = m := by
    rw [List.getD_eq_getElem?_getD, List.getElem?_append_right (Nat.le_refl _)]; simp
  constructor
  · rintro ⟨h1, h2⟩
    have k1 : ∀ t, t < j.length → inB (j.getD t 0) (lowR (j.length + 1) t) 1000000000 = true := fun t ht => by rw [← hg t ht]; exact h2 t (by omega)
    refine ⟨fun t ht => ?_, fun t ht => ?_, ?_, h1⟩
    · obtain ⟨k, hk, rfl⟩ := List.getElem_of_mem ht
      have := inB_iff.1 (k1 k hk)
      rw [List.getD_eq_getElem?_getD, List.getElem?_eq_getElem hk] at this
      simp only [Option.getD_some] at this
      unfold lowR at this
      split at this <;> omega
    · obtain ⟨k, hk, rfl⟩ := List.getElem_of_mem ht
      rw [List.length_drop] at hk
      have := inB_iff.1 (k1 (k + 1) (by omega))
      rw [List.getD_eq_getElem?_getD, List.getElem?_eq_getElem (show k + 1 < j.length by omega)] at this
      simp only [Option.getD_some] at this
      unfold lowR at this
      rw [if_neg (by omega)] at this
      rw [List.getElem_drop]
      have e : 1 + k = k + 1 := by omega
      simp only [e]
      exact this.1
    · have := inB_iff.1 (h2 j.length (by omega))
      rw [hm] at this
      unfold lowR at this
      rw [if_neg (by omega)] at this
      exact this
  · rintro ⟨h1, h2, h3, h4⟩
    refine ⟨h4, fun t ht => ?_⟩
    rw [inB_iff]
    by_cases e : t = j.length
    · subst e
      rw [hm]
      unfold lowR
      split <;> omega
    · have ht' : t < j.length := by omega
      rw [hg t ht', List.getD_eq_getElem?_getD, List.getElem?_eq_getElem ht']
      simp only [Option.getD_some]
      have k1 := h1 _ (List.getElem_mem ht')
      unfold lowR
      by_cases e0 : t = 0 ∧ 1 < j.length + 1
      · rw [if_pos e0]; exact k1
      · rw [if_neg e0]
        refine ⟨?_, k1.2⟩
        have ht0 : 1 ≤ t := by omega
        apply h2
        rw [List.mem_iff_getElem?]
        exact ⟨t - 1, by rw [List.getElem?_drop, show 1 + (t - 1) = t by omega]; exact List.getElem?_eq_getElem ht'⟩
theorem snoc_of {s : List Int} (h : s ≠ []) : ∃ j m, s = j ++ [m] := ⟨s.dropLast, s.getLast h, (List.dropLast_concat_getLast h).symm⟩
/-- The path to a fraction. -/
def ptP (n d : Int) : List Int := if posC n d = 0 then pthL (exF 60 n d).dropLast ((exF 60 n d).getLastD 0) else []
theorem pt_of {n d : Int} {i : List Int} {l : Int} (h : posC n d = 0) (hL : exF 60 n d = i ++ [l]) : ptP n d = pthL i l := by
  unfold ptP
  rw [if_pos h, hL, List.dropLast_concat]
  simp
theorem posC_of {n d : Int} (h : okF n d = true) (hn : 1 ≤ n) : posC n d = 0 := by
  unfold posC; rw [if_pos h, if_pos hn]
/-- A value in normal form has the path of its terms. -/
theorem nrm_path {i : List Int} {l : Int} (h : Nrm i l) (h1 : (mtx (i ++ [l])).1.1 ≤ 1000000000) (h2 : (mtx (i ++ [l])).1.2 ≤ 1000000000) :
    posC (mtx (i ++ [l])).1.1 (mtx (i ++ [l])).1.2 = 0 ∧ exF 60 (mtx (i ++ [l])).1.1 (mtx (i ++ [l])).1.2 = i ++ [l] := by
  obtain ⟨p1, p2⟩ := nrm_pos h
  exact ⟨posC_of (okF_iff.2 ⟨⟨p2, h2⟩, ⟨by omega, h1⟩, mtx_gcd _⟩) p1, nrm_exp h h2⟩
theorem okR_nrm {j : List Int} {m : Int} (h : okR (j ++ [m]) = true) : Nrm j (m + 1) := by
  obtain ⟨h1, h2, h3, h4⟩ := okR_snoc.1 h
  exact ⟨fun t ht => (h1 t ht).1, h2, fun _ => by omega, fun _ => by omega⟩
theorem fit_top {z : List Int} (h0 : z ≠ []) (h : fitL z = true) : (mtx z).1.1 ≤ 1000000000 ∧ (mtx z).1.2 ≤ 1000000000 := by
  have hz : 1 ≤ z.length := by
    cases z with
    | nil => exact absurd rfl h0
    | cons => simp
  have := fitN_le h hz (Nat.le_refl _)
  rw [List.take_of_length_le (Nat.le_refl _)] at this
  unfold fitE at this
  rw [Bool.and_eq_true, inB_iff, inB_iff] at this
  omega
/-- From a path to its fraction and back. -/
theorem fp_path {s : List Int} (h : okR s = true) (hf : faB s = true) : posC (faM s).1 (faM s).2 = 0 ∧ ptP (faM s).1 (faM s).2 = s := by
  by_cases e : s = []
  · subst e
    exact ⟨by decide +kernel, by decide +kernel⟩
  · obtain ⟨j, m, rfl⟩ := snoc_of e
    obtain ⟨e1, e2⟩ := fa_snoc j m
    rw [e2] at hf
    have hN := okR_nrm h
    have hm := (okR_snoc.1 h).2.2.1
    have hF : fitL (j ++ [m + 1]) = true := by
      unfold caM at hf
      cases hc : fitL (j ++ [m + 1])
      · rw [hc] at hf; simp at hf
      · rfl
    obtain ⟨t1, t2⟩ := fit_top (by simp) hF
    rw [e1, ca_nrm hN t1 t2]
    simp only
    obtain ⟨q1, q2⟩ := nrm_path hN t1 t2
    refine ⟨q1, ?_⟩
    rw [pt_of q1 q2]
    unfold pthL
    rw [if_neg (by omega), show m + 1 - 1 = m by omega]
theorem okR_pth {i : List Int} {l : Int} (E : ExL i l) : okR (pthL i l) = true := by
  unfold pthL
  by_cases h : l = 1
  · rw [if_pos h]; decide
  · rw [if_neg h]
    have l2 : 2 ≤ l := by
      have := E.nrm.pos; omega
    have := E.top
    exact okR_snoc.2 ⟨fun t ht => by have := E.hd t ht; omega, E.tl, by omega, E.len⟩
/-- From a fraction to its path and back. -/
theorem path_back {n d : Int} (h : posC n d = 0) : okR (ptP n d) = true ∧ faB (ptP n d) = true ∧ faM (ptP n d) = (n, d) := by
  obtain ⟨hok, ⟨n1, n2⟩, d1, d2⟩ := pos_facts h
  obtain ⟨i, l, hL, E⟩ := ex_all n1 n2 d1 d2
  have hv := ex_value hok n1
  rw [hL] at hv
  rw [pt_of h hL]
  refine ⟨okR_pth E, ?_⟩
  by_cases hl : l = 1
  · subst hl
    have hi : i = [] := by
      by_cases e : i = []
      · exact e
      · have := E.two e; omega
    subst hi
    rw [List.nil_append, (mtx_one1 1).1] at hv
    injection hv with v1 v2
    subst v1 v2
    exact ⟨by decide, by decide⟩
  · have e : pthL i l = i ++ [l - 1] := by unfold pthL; rw [if_neg hl]
    obtain ⟨e1, e2⟩ := fa_snoc i (l - 1)
    rw [show l - 1 + 1 = l by omega] at e1 e2
    have hc := ca_nrm E.nrm (by rw [hv]; exact n2) (by rw [hv]; exact d2)
    rw [hv] at hc
    rw [e, e1, e2, hc]
    exact ⟨rfl, rfl⟩
end Go.Proofs.YtlmmpeeacjbobaaGreatDoor
