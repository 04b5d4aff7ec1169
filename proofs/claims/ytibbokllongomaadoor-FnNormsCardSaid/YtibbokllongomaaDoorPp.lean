/-
  Pell equations: the convergents of a root as plain functions, their norms and their growth.
-/
import Derived.Test.YtibbokllongomaaDoorPer
import Derived.Test.YtibbokllongomaaDoorMul
namespace Go.Proofs.YtibbokllongomaaDoor
open Go.RowKit

def trX (d : Int) (k : Nat) : Int := tmX d (orb d (0, 1) k)
def cvX (d : Int) : Nat → (Int × Int) × (Int × Int)
  | 0 => ((1, 0), (0, 1))
  | k + 1 => ((trX d k * (cvX d k).1.1 + (cvX d k).2.1, trX d k * (cvX d k).1.2 + (cvX d k).2.2), (cvX d k).1)
def sgX : Nat → Int
  | 0 => 1
  | k + 1 => -sgX k
theorem sg_val (k : Nat) : sgX k = 1 - (k % 2 : Nat) * 2 := by
  induction k with
  | zero => rfl
  | succ k ih => unfold sgX; rw [ih]; omega
theorem tr_bd {d a0 : Int} (R : RootD d a0) (k : Nat) : 1 ≤ trX d k ∧ trX d k ≤ 2 * a0 := by
  have := R.one
  unfold trX
  cases k with
  | zero => show 1 ≤ tmX d (0, 1) ∧ tmX d (0, 1) ≤ 2 * a0; rw [(root_zero R).2.1]; omega
  | succ k => obtain ⟨_, h1, h2, _⟩ := red_step R (orb_red R k); exact ⟨h1, h2⟩
theorem orb_step {d a0 : Int} (R : RootD d a0) (k : Nat) : (orb d (0, 1) k).2 ≠ 0 ∧ (orb d (0, 1) (k + 1)).1 = trX d k * (orb d (0, 1) k).2 - (orb d (0, 1) k).1 ∧
    (orb d (0, 1) k).2 * (orb d (0, 1) (k + 1)).2 = d - (orb d (0, 1) (k + 1)).1 * (orb d (0, 1) (k + 1)).1 := by
  cases k with
  | zero =>
    obtain ⟨h1, h2, _⟩ := root_zero R
    show (1 : Int) ≠ 0 ∧ (nxt d (0, 1)).1 = tmX d (0, 1) * 1 - 0 ∧ 1 * (nxt d (0, 1)).2 = d - (nxt d (0, 1)).1 * (nxt d (0, 1)).1
    rw [h1, h2]
    refine ⟨by omega, by simp, by simp⟩
  | succ k =>
    have hr := orb_red R k
    obtain ⟨_, _, _, h4, _, h6⟩ := red_step R hr
    obtain ⟨_, ⟨h, _⟩, _⟩ := hr
    exact ⟨by omega, h6, h4⟩
theorem pell_a {d p q pp qq P Q P' Q' t : Int} (hQ : Q ≠ 0) (h1 : d * q = p * P + pp * Q) (h2 : p = q * P + qq * Q) (h3 : P' = t * Q - P) (h4 : Q * Q' = d - P' * P') : d * (t * q + qq) = (t * p + pp) * P' + p * Q' := by
  have : Q * (d * (t * q + qq)) = Q * ((t * p + pp) * P' + p * Q') := by grind
  exact Int.eq_of_mul_eq_mul_left hQ this
theorem pell_b {d p q pp qq P Q P' Q' t : Int} (hQ : Q ≠ 0) (h1 : d * q = p * P + pp * Q) (h2 : p = q * P + qq * Q) (h3 : P' = t * Q - P) (h4 : Q * Q' = d - P' * P') : t * p + pp = (t * q + qq) * P' + q * Q' := by
  have : Q * (t * p + pp) = Q * ((t * q + qq) * P' + q * Q') := by grind
  exact Int.eq_of_mul_eq_mul_left hQ this
theorem cv_inv {d a0 : Int} (R : RootD d a0) (k : Nat) : d * (cvX d k).1.2 = (cvX d k).1.1 * (orb d (0, 1) k).1 + (cvX d k).2.1 * (orb d (0, 1) k).2 ∧
    (cvX d k).1.1 = (cvX d k).1.2 * (orb d (0, 1) k).1 + (cvX d k).2.2 * (orb d (0, 1) k).2 ∧ (cvX d k).1.1 * (cvX d k).2.2 - (cvX d k).2.1 * (cvX d k).1.2 = sgX k := by
  induction k with
  | zero => simp [cvX, orb, sgX]
  | succ k ih =>
    obtain ⟨i1, i2, i3⟩ := ih
    obtain ⟨s1, s2, s3⟩ := orb_step R k
    refine ⟨pell_a s1 i1 i2 s2 s3, pell_b s1 i1 i2 s2 s3, ?_⟩
    show (trX d k * (cvX d k).1.1 + (cvX d k).2.1) * (cvX d k).1.2 - (cvX d k).1.1 * (trX d k * (cvX d k).1.2 + (cvX d k).2.2) = -sgX k
    rw [← i3]
    grind
theorem cv_norm {d a0 : Int} (R : RootD d a0) (k : Nat) : (cvX d k).1.1 * (cvX d k).1.1 - d * (cvX d k).1.2 * (cvX d k).1.2 = (orb d (0, 1) k).2 * sgX k := by
  obtain ⟨i1, i2, i3⟩ := cv_inv R k
  grind
theorem cv_up {d a0 : Int} (R : RootD d a0) (k : Nat) : 1 ≤ (cvX d k).1.1 ∧ 0 ≤ (cvX d k).1.2 ∧ 0 ≤ (cvX d k).2.1 ∧ 0 ≤ (cvX d k).2.2 ∧ (cvX d k).1.1 ≤ (cvX d (k + 1)).1.1 ∧ (cvX d k).1.2 ≤ (cvX d (k + 1)).1.2 := by
  induction k with
  | zero =>
    have h := tr_bd R 0
    have h2 := R.one
    show (1:Int) ≤ 1 ∧ (0:Int) ≤ 0 ∧ (0:Int) ≤ 0 ∧ (0:Int) ≤ 1 ∧ 1 ≤ trX d 0 * 1 + 0 ∧ 0 ≤ trX d 0 * 0 + 1
    omega
  | succ k ih =>
    obtain ⟨h1, h2, h3, h4, h5, h6⟩ := ih
    obtain ⟨t1, t2⟩ := tr_bd R (k + 1)
    have e1 : (cvX d (k + 1 + 1)).1.1 = trX d (k + 1) * (cvX d (k + 1)).1.1 + (cvX d k).1.1 := rfl
    have e2 : (cvX d (k + 1 + 1)).1.2 = trX d (k + 1) * (cvX d (k + 1)).1.2 + (cvX d k).1.2 := rfl
    have e3 : (cvX d (k + 1)).2 = (cvX d k).1 := rfl
    have m1 := Int.mul_le_mul_of_nonneg_right t1 (show 0 ≤ (cvX d (k + 1)).1.1 by omega)
    have m2 := Int.mul_le_mul_of_nonneg_right t1 (show 0 ≤ (cvX d (k + 1)).1.2 by omega)
    rw [e1, e2, e3]
    omega
theorem cv_le {d a0 : Int} (R : RootD d a0) (k : Nat) : ∀ n, (cvX d k).1.1 ≤ (cvX d (k + n)).1.1 ∧ (cvX d k).1.2 ≤ (cvX d (k + n)).1.2
  | 0 => ⟨Int.le_refl _, Int.le_refl _⟩
  | n + 1 => by
    have h := cv_le R k n
    have h2 := cv_up R (k + n)
    show _ ≤ (cvX d (k + n + 1)).1.1 ∧ _ ≤ (cvX d (k + n + 1)).1.2
    omega
theorem okP_mono {d x y x' y' : Int} (h : okP d x' y' = true) (h1 : 0 ≤ x) (h2 : x ≤ x') (h3 : 0 ≤ y) (h4 : y ≤ y') : okP d x y = true := by
  simp only [okP, inB, Bool.and_eq_true, decide_eq_true_eq] at h ⊢
  have := sq_mono h3 h4
  omega
theorem cv_ok {d a0 : Int} (R : RootD d a0) (k n : Nat) (hk : k ≤ n) (h : okP d (cvX d n).1.1 (cvX d n).1.2 = true) : okP d (cvX d k).1.1 (cvX d k).1.2 = true := by
  obtain ⟨m, rfl⟩ : ∃ m, n = k + m := ⟨n - k, by omega⟩
  obtain ⟨a, b⟩ := cv_le R k m
  obtain ⟨c1, c2, _⟩ := cv_up R k
  exact okP_mono h (by omega) a (by omega) b
theorem cv_one {d a0 : Int} (R : RootD d a0) (hd : d ≤ 10000) : okP d (cvX d 1).1.1 (cvX d 1).1.2 = true ∧ (cvX d 1).1.1 = a0 ∧ (cvX d 1).1.2 = 1 := by
  have e1 : (cvX d 1).1.1 = a0 := by
    show trX d 0 * 1 + 0 = a0
    have : trX d 0 = a0 := (root_zero R).2.1
    omega
  have e2 : (cvX d 1).1.2 = 1 := by
    show trX d 0 * 0 + 1 = 1
    omega
  refine ⟨?_, e1, e2⟩
  rw [e1, e2]
  have h1 := R.one
  have h2 := R.top
  have h3 := R.d2
  have h4 : (1 : Int) ≤ (1000000000000000000 : Int).tdiv d := by
    rw [Int.tdiv_eq_ediv_of_nonneg (by omega), Int.le_ediv_iff_mul_le (by omega)]; omega
  simp only [okP, inB, Bool.and_eq_true, decide_eq_true_eq]
  omega
end Go.Proofs.YtibbokllongomaaDoor
