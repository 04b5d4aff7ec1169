/-
  Paths and fractions, as plain facts: a list of terms in normal form is the expansion of its value; parents, children, levels.
-/
import Derived.Test.YtlmmpeeacjbobaaGreatDoorPa
import Derived.Test.YtlmmpeeacjbobaaGreatDoorOk
namespace Go.Proofs.YtlmmpeeacjbobaaGreatDoor
open Go.RowKit

theorem mtx_nn : ∀ {a : List Int}, (∀ t ∈ a, 0 ≤ t) → 0 ≤ (mtx a).1.1 ∧ 0 ≤ (mtx a).1.2 ∧ 0 ≤ (mtx a).2.1 ∧ 0 ≤ (mtx a).2.2
  | [], _ => by simp [mtx]
  | t :: a, h => by
    obtain ⟨h1, h2, h3, h4⟩ := mtx_nn (a := a) (fun s hs => h s (List.mem_cons_of_mem _ hs))
    have ht := h t (by simp)
    have m1 := Int.mul_nonneg ht h1
    have m2 := Int.mul_nonneg ht h3
    rw [mtx_cons]
    simp only
    omega
theorem mtx_one1 (l : Int) : (mtx [l]).1 = (l, 1) ∧ (mtx [l]).2 = (1, 0) := by simp [mtx, mtS]
/-- Terms from 1 on, the last one from 2 on: the value is greater than 1. -/
theorem nrm_val : ∀ (i : List Int) (l : Int), (∀ t ∈ i, 1 ≤ t) → 2 ≤ l → 1 ≤ (mtx (i ++ [l])).1.2 ∧ (mtx (i ++ [l])).1.2 < (mtx (i ++ [l])).1.1
  | [], l, _, h => by
    have := (mtx_one1 l).1
    rw [List.nil_append, this]
    simp only; omega
  | t :: i, l, hi, hl => by
    obtain ⟨h1, h2⟩ := nrm_val i l (fun s hs => hi s (List.mem_cons_of_mem _ hs)) hl
    have ht := hi t (by simp)
    rw [List.cons_append, mtx_cons]
    simp only
    have m := Int.mul_le_mul_of_nonneg_right ht (show 0 ≤ (mtx (i ++ [l])).1.1 by omega)
    omega
theorem ex_uniq : ∀ (i : List Int) (l : Int) (K : Nat), (∀ t ∈ i, 1 ≤ t) → 2 ≤ l → i.length + 1 ≤ K → exF K (mtx (i ++ [l])).1.1 (mtx (i ++ [l])).1.2 = i ++ [l]
  | [], l, 0, _, _, h => by simp at h
  | t :: i, l, 0, _, _, h => by simp at h
  | [], l, K + 1, _, hl, _ => by
    rw [List.nil_append, (mtx_one1 l).1, exF_step (by simp)]
    simp only [Int.ediv_one, Int.emod_one]
    rw [exF_zero]
  | t :: i, l, K + 1, hi, hl, hK => by
    have hi' : ∀ s ∈ i, 1 ≤ s := fun s hs => hi s (List.mem_cons_of_mem _ hs)
    obtain ⟨h1, h2⟩ := nrm_val i l hi' hl
    have ih := ex_uniq i l K hi' hl (by simp at hK; omega)
    rw [List.cons_append, mtx_cons]
    simp only
    generalize (mtx (i ++ [l])).1.1 = p at *
    generalize (mtx (i ++ [l])).1.2 = q at *
    rw [exF_step (by omega)]
    have e1 : (t * p + q) / p = t := by
      rw [Int.add_comm, Int.add_mul_ediv_right _ _ (by omega), Int.ediv_eq_zero_of_lt (by omega) h2]; omega
    have e2 : (t * p + q) % p = q := by
      rw [Int.add_comm, Int.add_mul_emod_self_right, Int.emod_eq_of_lt (by omega) h2]
    rw [e1, e2, ih]
/-- Normal form: the first term from 0 on, the others from 1 on, the last of several from 2 on; a single one from 1 on. -/
structure Nrm (i : List Int) (l : Int) : Prop where
  hd : ∀ t ∈ i, 0 ≤ t
  tl : ∀ t ∈ i.drop 1, 1 ≤ t
  one : i = [] → 1 ≤ l
  two : i ≠ [] → 2 ≤ l
theorem ExL.nrm {i : List Int} {l : Int} (h : ExL i l) : Nrm i l := ⟨fun t ht => (h.hd t ht).1, h.tl, h.one, h.two⟩
theorem Nrm.pos {i : List Int} {l : Int} (h : Nrm i l) : 1 ≤ l := by
  by_cases e : i = []
  · exact h.one e
  · have := h.two e; omega
theorem nrm_pos {i : List Int} {l : Int} (h : Nrm i l) : 1 ≤ (mtx (i ++ [l])).1.1 ∧ 1 ≤ (mtx (i ++ [l])).1.2 := by
  cases i with
  | nil => rw [List.nil_append, (mtx_one1 l).1]; have := h.one rfl; simp only; omega
  | cons t i =>
    have hl := h.two (by simp)
    obtain ⟨h1, h2⟩ := nrm_val i l (fun s hs => h.tl s (by simpa using hs)) hl
    have ht := h.hd t (by simp)
    have m := Int.mul_nonneg ht (show 0 ≤ (mtx (i ++ [l])).1.1 by omega)
    rw [List.cons_append, mtx_cons]
    simp only
    omega
theorem nrm_uniq {i : List Int} {l : Int} (h : Nrm i l) {K : Nat} (hK : i.length + 1 ≤ K) : exF K (mtx (i ++ [l])).1.1 (mtx (i ++ [l])).1.2 = i ++ [l] := by
  cases i with
  | nil =>
    cases K with
    | zero => simp at hK
    | succ K =>
      rw [List.nil_append, (mtx_one1 l).1, exF_step (by simp)]
      simp only [Int.ediv_one, Int.emod_one]
      rw [exF_zero]
  | cons t i =>
    cases K with
    | zero => simp at hK
    | succ K =>
      have hl := h.two (by simp)
      have hi' : ∀ s ∈ i, 1 ≤ s := fun s hs => h.tl s (by simpa using hs)
      obtain ⟨h1, h2⟩ := nrm_val i l hi' hl
      have ih := ex_uniq i l K hi' hl (by simp at hK; omega)
      rw [List.cons_append, mtx_cons]
      simp only
      generalize (mtx (i ++ [l])).1.1 = p at *
      generalize (mtx (i ++ [l])).1.2 = q at *
      rw [exF_step (by omega)]
      have e1 : (t * p + q) / p = t := by
        rw [Int.add_comm, Int.add_mul_ediv_right _ _ (by omega), Int.ediv_eq_zero_of_lt (by omega) h2]; omega
      have e2 : (t * p + q) % p = q := by
        rw [Int.add_comm, Int.add_mul_emod_self_right, Int.emod_eq_of_lt (by omega) h2]
      rw [e1, e2, ih]
theorem exF_more : ∀ (k : Nat) (n d : Int), exEnd k n d → ∀ m, exF (k + m) n d = exF k n d
  | 0, n, d, h, m => by
    have : d = 0 := h
    subst this
    rw [exF_zero, exF_zero]
  | k + 1, n, d, h, m => by
    by_cases hd : d = 0
    · subst hd; rw [exF_zero, exF_zero]
    · have h : exEnd k d (n % d) := by
        rcases h with h | h
        · exact absurd h hd
        · exact h
      rw [show k + 1 + m = k + m + 1 by omega, exF_step hd, exF_step hd, exF_more k d (n % d) h m]
/-- The expansion of a value in normal form, with whatever number of terms. -/
theorem nrm_exp {i : List Int} {l : Int} (h : Nrm i l) (hb : (mtx (i ++ [l])).1.2 ≤ 1000000000) : exF 60 (mtx (i ++ [l])).1.1 (mtx (i ++ [l])).1.2 = i ++ [l] := by
  have hp := nrm_pos h
  have h1 := exF_more 60 _ _ (exEnd_all (mtx (i ++ [l])).1.1 (mtx (i ++ [l])).1.2 (by omega) hb) (i.length + 1)
  rw [← h1]
  exact nrm_uniq h (by omega)
/-- The value of an expansion. -/
theorem ex_val : ∀ (k : Nat) (n d : Int), 0 ≤ n → 0 ≤ d → exEnd k n d → ((Int.gcd n d : Nat) : Int) * (mtx (exF k n d)).1.1 = n ∧ ((Int.gcd n d : Nat) : Int) * (mtx (exF k n d)).1.2 = d
  | 0, n, d, hn, hd, h => by
    have : d = 0 := h
    subst this
    rw [exF_zero, Int.gcd_zero_right]
    simp [mtx]
    omega
  | k + 1, n, d, hn, hd, h => by
    by_cases h0 : d = 0
    · subst h0
      rw [exF_zero, Int.gcd_zero_right]
      simp [mtx]
      omega
    · have h : exEnd k d (n % d) := by
        rcases h with h | h
        · exact absurd h h0
        · exact h
      rw [exF_step h0, mtx_cons]
      simp only
      obtain ⟨h1, h2⟩ := ex_val k d (n % d) hd (Int.emod_nonneg n h0) h
      have hg : Int.gcd d (n % d) = Int.gcd n d := by
        obtain ⟨N, rfl⟩ := Int.eq_ofNat_of_zero_le hn
        obtain ⟨D, rfl⟩ := Int.eq_ofNat_of_zero_le hd
        show Nat.gcd D (((N : Int) % (D : Int)).natAbs) = Nat.gcd N D
        rw [show ((N : Int) % (D : Int)).natAbs = N % D by omega, Nat.gcd_comm D, ← Nat.gcd_rec, Nat.gcd_comm]
      rw [hg] at h1 h2
      refine ⟨?_, h1⟩
      rw [Int.mul_add, h2, ← Int.mul_assoc, Int.mul_comm _ (n / d), Int.mul_assoc, h1]
      have := Int.emod_add_mul_ediv n d
      rw [Int.mul_comm]
      omega
theorem ex_value {n d : Int} (h : okF n d = true) (hn : 1 ≤ n) : (mtx (exF 60 n d)).1 = (n, d) := by
  obtain ⟨⟨d1, d2⟩, _, hg⟩ := okF_iff.1 h
  obtain ⟨h1, h2⟩ := ex_val 60 n d (by omega) (by omega) (exEnd_all n d (by omega) d2)
  rw [hg] at h1 h2
  refine Prod.ext ?_ ?_ <;> simp only <;> omega
end Go.Proofs.YtlmmpeeacjbobaaGreatDoor
