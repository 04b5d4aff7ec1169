/-
  Small pairs: their products, their norms; the hardest equation's solution is the least one.
-/
import Derived.Test.YtibbokllongomaaDoorHard
import Derived.Test.YtibbokllongomaaDoorMul2
import Derived.Test.YtibbokllongomaaDoorTop
namespace Go.Proofs.YtibbokllongomaaDoor
open Go.RowKit

theorem mulk {a b A B : Int} (a1 : -A ≤ a) (a2 : a ≤ A) (b1 : -B ≤ b) (b2 : b ≤ B) : -(A * B) ≤ a * b ∧ a * b ≤ A * B := by
  have h := Int.natAbs_mul a b
  have h2 : a.natAbs * b.natAbs ≤ A.natAbs * B.natAbs := Nat.mul_le_mul (by omega) (by omega)
  have h3 := Int.natAbs_mul A B
  have h4 : (A * B).natAbs = A * B := by
    have : 0 ≤ A * B := Int.mul_nonneg (by omega) (by omega)
    omega
  omega
theorem okP_little {d x y : Int} (h1 : 2 ≤ d) (h2 : d ≤ 10000) (x1 : -1000000000 ≤ x) (x2 : x ≤ 1000000000) (y1 : -10000 ≤ y) (y2 : y ≤ 10000) : okP d x y = true := by
  obtain ⟨m1, m2⟩ := mulk y1 y2 y1 y2
  have e : (1000000000000000000 : Int).tdiv d = 1000000000000000000 / d := Int.tdiv_eq_ediv_of_nonneg (by omega)
  have h3 : 100000000000000 ≤ (1000000000000000000 : Int) / d := (Int.le_ediv_iff_mul_le (by omega)).2 (by omega)
  unfold okP
  rw [Bool.and_eq_true, Bool.and_eq_true, inB_iff, inB_iff, decide_eq_true_eq, e]
  omega
theorem pd_ok {d : Int} (h1 : 2 ≤ d) (h2 : d ≤ 10000) (h3 : sqB d = false) : pdM d = 0 := by
  unfold pdM
  simp [inB, h1, h2, h3]
theorem norm_mul (d x y z t : Int) : nmV d (mxP d x y z t) (myP x y z t) = nmV d x y * nmV d z t := by
  unfold nmV mxP myP
  grind
theorem ml_little {d x y z t : Int} (h1 : 2 ≤ d) (h2 : d ≤ 702) (h3 : sqB d = false) (x1 : -100 ≤ x) (x2 : x ≤ 100) (y1 : -30 ≤ y) (y2 : y ≤ 30) (z1 : -100 ≤ z) (z2 : z ≤ 100) (t1 : -30 ≤ t) (t2 : t ≤ 30) :
    pcM d x y = 0 ∧ mlM d x y z t = ((mxP d x y z t, myP x y z t), 0) ∧ mlM d z t x y = ((mxP d x y z t, myP x y z t), 0) ∧ pcM d (mxP d x y z t) (myP x y z t) = 0 := by
  have hp := pd_ok h1 (show d ≤ 10000 by omega) h3
  have c1 : pcM d x y = 0 := by unfold pcM; rw [if_pos hp, okP_little h1 (by omega) (by omega) (by omega) (by omega) (by omega)]; rfl
  have c2 : pcM d z t = 0 := by unfold pcM; rw [if_pos hp, okP_little h1 (by omega) (by omega) (by omega) (by omega) (by omega)]; rfl
  obtain ⟨a1, a2⟩ := mulk (A := 100) (B := 100) (by omega) x2 (by omega) z2
  obtain ⟨a3, a4⟩ := mulk (A := 702) (B := 30) (show -702 ≤ d by omega) (by omega) (by omega) y2
  obtain ⟨a5, a6⟩ := mulk (a := d * y) (b := t) (A := 21060) (B := 30) (by omega) (by omega) (by omega) t2
  obtain ⟨a7, a8⟩ := mulk (A := 100) (B := 30) (by omega) x2 (by omega) t2
  obtain ⟨a9, a10⟩ := mulk (A := 30) (B := 100) (by omega) y2 (by omega) z2
  have e1 : mxP d z t x y = mxP d x y z t := by unfold mxP; grind
  have e2 : myP z t x y = myP x y z t := by unfold myP; grind
  have ok : okP d (mxP d x y z t) (myP x y z t) = true := by
    refine okP_little h1 (by omega) ?_ ?_ ?_ ?_ <;> simp only [mxP, myP] <;> omega
  have f1 : fitP d y t = true := by
    unfold fitP
    obtain ⟨u1, u2⟩ := mulk (a := d) (b := (y.natAbs : Int)) (A := 702) (B := 30) (by omega) (by omega) (by omega) (by omega)
    exact big_true (by omega) (by omega) (by omega) (by omega)
  have f2 : fitP d t y = true := by
    unfold fitP
    obtain ⟨u1, u2⟩ := mulk (a := d) (b := (t.natAbs : Int)) (A := 702) (B := 30) (by omega) (by omega) (by omega) (by omega)
    exact big_true (by omega) (by omega) (by omega) (by omega)
  have m1 : mcM d x y z t = 0 := by unfold mcM; rw [if_pos c1, c2]
  have m2 : mcM d z t x y = 0 := by unfold mcM; rw [if_pos c2, c1]
  refine ⟨c1, ?_, ?_, ?_⟩
  · unfold mlM; rw [if_pos m1, f1, ok]; rfl
  · unfold mlM; rw [if_pos m2, e1, e2, f2, ok]; rfl
  · unfold pcM; rw [if_pos hp, ok]; rfl
theorem two_sq : sqB 2 = false := by decide
theorem two_ls : lsB 2 (perN 2) = true ∧ lsX 2 (perN 2) = 3 := by decide
theorem hp_least : ∀ k : Nat, 1 ≤ k → (2 ≤ (hpF k).1 ∧ (hpF k).1 ≤ (k : Int) + 1) ∧ sqB (hpF k).1 = false ∧ lsB (hpF k).1 (perN (hpF k).1) = true ∧ (hpF k).2.1 = lsX (hpF k).1 (perN (hpF k).1) ∧ (hpF k).2.2 = lsY (hpF k).1 (perN (hpF k).1)
  | 0, h => by omega
  | k + 1, _ => by
    have step : (hpF (k + 1) = hpF k ∧ 1 ≤ k) ∨ (hpF (k + 1) = ((k : Int) + 2, lsX ((k : Int) + 2) (perN ((k : Int) + 2)), lsY ((k : Int) + 2) (perN ((k : Int) + 2))) ∧ sqB ((k : Int) + 2) = false ∧ lsB ((k : Int) + 2) (perN ((k : Int) + 2)) = true) := by
      cases Nat.eq_zero_or_pos k with
      | inl e =>
        subst e
        right
        have h1 : sqB (((0 : Nat) : Int) + 2) = false := two_sq
        have h2 : lsB (((0 : Nat) : Int) + 2) (perN (((0 : Nat) : Int) + 2)) = true := two_ls.1
        have h3 : lsX (((0 : Nat) : Int) + 2) (perN (((0 : Nat) : Int) + 2)) = 3 := two_ls.2
        refine ⟨?_, h1, h2⟩
        show (if sqB (((0 : Nat) : Int) + 2) then hpF 0 else _) = _
        rw [h1, if_neg (by decide), h2, h3]
        rfl
      | inr e =>
        cases hs : sqB ((k : Int) + 2)
        · cases hb : lsB ((k : Int) + 2) (perN ((k : Int) + 2)) && decide ((hpF k).2.1 < lsX ((k : Int) + 2) (perN ((k : Int) + 2)))
          · left
            refine ⟨?_, e⟩
            show (if sqB ((k : Int) + 2) then hpF k else _) = _
            rw [hs, if_neg (by decide), hb]
            rfl
          · right
            refine ⟨?_, rfl, (Bool.and_eq_true_iff.1 hb).1⟩
            show (if sqB ((k : Int) + 2) then hpF k else _) = _
            rw [hs, if_neg (by decide), hb]
            rfl
        · left
          refine ⟨?_, e⟩
          show (if sqB ((k : Int) + 2) then hpF k else _) = _
          rw [hs]
          rfl
    rcases step with ⟨h, hk⟩ | ⟨h, h1, h2⟩
    · rw [h]
      obtain ⟨⟨a, b⟩, c, d, e, f⟩ := hp_least k hk
      exact ⟨⟨a, by omega⟩, c, d, e, f⟩
    · rw [h]
      exact ⟨⟨by simp only; omega, by simp only; omega⟩, h1, h2, rfl, rfl⟩
theorem hp_lp {n : Int} (h1 : 2 ≤ n) (h2 : n ≤ 200) : (hpM n).2.2 = 0 ∧ lpM (hpM n).1 = ((hpM n).2.1, 0) := by
  have hi : inB n 2 200 = true := inB_iff.2 ⟨h1, h2⟩
  have e : hpM n = ((hpF (n - 1).toNat).1, ((hpF (n - 1).toNat).2.1, (hpF (n - 1).toNat).2.2), 0) := by unfold hpM; rw [hi]; rfl
  obtain ⟨⟨a, b⟩, c, d, f, g⟩ := hp_least (n - 1).toNat (by omega)
  rw [e]
  refine ⟨rfl, ?_⟩
  simp only
  unfold lpM
  rw [if_pos (pd_ok a (by omega) c), d, f, g]
  rfl
end Go.Proofs.YtibbokllongomaaDoor
