/-
  The convergents of a list of terms, as the program lists them.
-/
import Derived.Test.YtlmmpeeacjbobaaGreatDoorCon
import Derived.Deep.AppendLies
namespace Go.Proofs.YtlmmpeeacjbobaaGreatDoor
open Go.RowKit

theorem cfit_bd {zs : List Int} (h1 : ∀ j, fitN zs j = true → fitE (mtx (zs.take j)) = true ∨ j = 0) : ∀ {j : Nat}, fitN zs j = true → j ≤ zs.length →
    (-1000000000 ≤ (mtx (zs.take j)).1.1 ∧ (mtx (zs.take j)).1.1 ≤ 1000000000) ∧ (-1000000000 ≤ (mtx (zs.take j)).1.2 ∧ (mtx (zs.take j)).1.2 ≤ 1000000000) ∧ (-1000000000 ≤ (mtx (zs.take j)).2.1 ∧ (mtx (zs.take j)).2.1 ≤ 1000000000) ∧ (-1000000000 ≤ (mtx (zs.take j)).2.2 ∧ (mtx (zs.take j)).2.2 ≤ 1000000000)
  | 0, _, _ => by simp [mtx]
  | j + 1, h, hl => by
    have hf : fitE (mtx (zs.take (j + 1))) = true := by
      rcases h1 _ h with e | e
      · exact e
      · omega
    unfold fitE at hf
    rw [Bool.and_eq_true, inB_iff, inB_iff] at hf
    refine ⟨hf.1, hf.2, ?_⟩
    have e : zs.take (j + 1) = zs.take j ++ [zs[j]] := by simp
    rw [e, mtx_snoc]
    simp only [mtS]
    have hj : fitN zs j = true := by
      unfold fitN at h
      exact (Bool.and_eq_true_iff.1 h).1
    have := cfit_bd h1 hj (by omega)
    exact ⟨this.1, this.2.1⟩
theorem fit_last (zs : List Int) : ∀ j, fitN zs j = true → fitE (mtx (zs.take j)) = true ∨ j = 0
  | 0, _ => .inr rfl
  | j + 1, h => .inl (fitN_le h (by omega) (Nat.le_refl _))
theorem take_snoc {zs : List Int} {j : Nat} {t : Int} (h : zs[j]? = some t) : zs.take (j + 1) = zs.take j ++ [t] := by
  rw [List.take_add_one, h]; rfl
theorem tms_get {zs : List Int} (ht : tmsB zs = true) {j : Nat} {t : Int} (h : zs[j]? = some t) : -1000000000 ≤ t ∧ t ≤ 1000000000 := by
  obtain ⟨_, h2, h3⟩ := tms_iff.1 ht
  cases j with
  | zero =>
    have e : zs.getD 0 0 = t := by rw [List.getD_eq_getElem?_getD, h]; rfl
    rw [e] at h2; exact h2
  | succ j =>
    have := h3 t (List.mem_of_getElem? (i := j) (by rw [List.getElem?_drop, Nat.add_comm]; exact h))
    omega
/-- The first n convergents. -/
def cvl (zs : List Int) (n : Nat) : List (Int × Int) := (List.range n).map fun k => (mtx (zs.take (k + 1))).1
def prc (xs : List (Int × Int)) : List Value := xs.flatMap fun p => [.int .i64 p.1, .int .i64 p.2]
theorem cvl_len (zs : List Int) (n : Nat) : (cvl zs n).length = n := by simp [cvl]
theorem prc_len (xs : List (Int × Int)) : (prc xs).length = xs.length * 2 := by
  induction xs with
  | nil => rfl
  | cons x xs ih => simp [prc] at ih ⊢; omega
theorem cvl_succ (zs : List Int) (n : Nat) : prc (cvl zs (n + 1)) = prc (cvl zs n) ++ [.int .i64 (mtx (zs.take (n + 1))).1.1, .int .i64 (mtx (zs.take (n + 1))).1.2] := by
  simp [cvl, prc, List.range_succ]
end Go.Proofs.YtlmmpeeacjbobaaGreatDoor
