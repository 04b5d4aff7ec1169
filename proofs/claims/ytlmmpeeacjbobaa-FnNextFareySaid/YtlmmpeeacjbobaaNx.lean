/-
  The best fraction above another one, as plain facts: it is the least of its kind, lies above, and is in lowest terms.
-/
import Derived.Test.YtlmmpeeacjbobaaFarey3
namespace Go.Proofs.Ytlmmpeeacjbobaa
open Go.RowKit

theorem above_div {n d q : Int} (hd : 1 ≤ d) : n * q < (n * q / d + 1) * d := by
  have h := Int.lt_ediv_add_one_mul_self (n * q) (show 0 < d by omega)
  exact h
/-- What holds of the best fraction: it lies above, its denominator is small, no candidate is less. -/
theorem nxt_inv {n d : Int} (h1 : 0 ≤ n) (h2 : n < d) : ∀ Q : Nat, 1 ≤ Q →
    1 ≤ (nxtF n d Q).2 ∧ (nxtF n d Q).2 ≤ (Q : Int) ∧ n * (nxtF n d Q).2 < (nxtF n d Q).1 * d ∧ Int.gcd (nxtF n d Q).1 (nxtF n d Q).2 = 1 ∧ 1 ≤ (nxtF n d Q).1 ∧ (nxtF n d Q).1 ≤ (nxtF n d Q).2 ∧
      ∀ q : Int, 1 ≤ q → q ≤ (Q : Int) → (nxtF n d Q).1 * q ≤ (n * q / d + 1) * (nxtF n d Q).2
  | 0, h => by omega
  | 1, _ => by
    rw [nxt_one n d h1 h2]
    refine ⟨by simp, by simp, by simpa using h2, by simp, by simp, by simp, ?_⟩
    intro q h3 h4
    have : q = 1 := by omega
    subst this
    have := Int.ediv_nonneg (a := n * 1) (b := d) (by omega) (by omega)
    simp only
    omega
  | Q + 2, _ => by
    obtain ⟨i1, i2, i3, i4, i5, i6, i7⟩ := nxt_inv h1 h2 (Q + 1) (by omega)
    have e : nxtF n d (Q + 2) = if (n * (((Q + 1 : Nat) : Int) + 1) / d + 1) * (nxtF n d (Q + 1)).2 < (nxtF n d (Q + 1)).1 * (((Q + 1 : Nat) : Int) + 1) then (n * (((Q + 1 : Nat) : Int) + 1) / d + 1, ((Q + 1 : Nat) : Int) + 1) else nxtF n d (Q + 1) := rfl
    rw [e]
    clear e
    have hQ : ((Q + 2 : Nat) : Int) = ((Q + 1 : Nat) : Int) + 1 := by omega
    rw [hQ]
    generalize hb : nxtF n d (Q + 1) = b at *
    obtain ⟨x, y⟩ := b
    simp only at i1 i2 i3 i4 i5 i6 i7
    generalize hm : ((Q + 1 : Nat) : Int) + 1 = m at *
    have hm1 : 2 ≤ m := by omega
    have ab := above_div (n := n) (q := m) (show 1 ≤ d by omega)
    have hc0 : 0 ≤ n * m / d := Int.ediv_nonneg (Int.mul_nonneg h1 (by omega)) (by omega)
    have hcm : n * m / d + 1 ≤ m := by
      have : n * m / d < m := by
        apply Int.ediv_lt_of_lt_mul (by omega)
        rw [Int.mul_comm m d]
        exact Int.mul_lt_mul_of_pos_right h2 (by omega)
      omega
    generalize hc : n * m / d + 1 = c at *
    by_cases hlt : c * y < x * m
    · rw [if_pos hlt]
      have hlow : Int.gcd c m = 1 := by
        rcases Nat.lt_or_ge 1 (Int.gcd c m) with hg | hg
        · exfalso
          have hgi : (1 : Int) < ((Int.gcd c m : Nat) : Int) := by omega
          obtain ⟨c', hc'⟩ := Int.gcd_dvd_left (a := c) (b := m)
          obtain ⟨m', hm'⟩ := Int.gcd_dvd_right (a := c) (b := m)
          generalize ((Int.gcd c m : Nat) : Int) = g at *
          have hmp : 0 < m' := by
            rcases Int.lt_or_le 0 m' with h | h
            · exact h
            · have := Int.mul_le_mul_of_nonneg_left h (show 0 ≤ g by omega)
              omega
          have hml : m' < m := by
            have := Int.mul_lt_mul_of_pos_right hgi hmp
            omega
          have k1 := i7 m' (by omega) (by omega)
          have k2 : n * m' / d + 1 ≤ c' := by
            have h5 : n * m' < c' * d := by
              have e1 : n * m = g * (n * m') := by rw [hm']; grind
              have e2 : c * d = g * (c' * d) := by rw [hc']; grind
              rw [e1, e2] at ab
              exact Int.lt_of_mul_lt_mul_left ab (by omega)
            have := Int.ediv_lt_of_lt_mul (show 0 < d by omega) h5
            omega
          have k3 : x * m' ≤ c' * y := Int.le_trans k1 (Int.mul_le_mul_of_nonneg_right k2 (by omega))
          have k4 := Int.mul_le_mul_of_nonneg_left k3 (show 0 ≤ g by omega)
          have e3 : g * (x * m') = x * m := by rw [hm']; grind
          have e4 : g * (c' * y) = c * y := by rw [hc']; grind
          omega
        · have : Int.gcd c m ≠ 0 := by
            intro h0
            have := (Int.gcd_eq_zero_iff.1 h0).2
            omega
          omega
      refine ⟨by simp only; omega, by simp only; omega, ab, hlow, by simp only; omega, hcm, ?_⟩
      intro q q1 q2
      simp only
      by_cases hq : q = m
      · subst hq; rw [hc]; exact Int.le_refl _
      · have k1 := i7 q q1 (by omega)
        -- c / m < x / y ≤ (n q / d + 1) / q
        have k2 := Int.mul_lt_mul_of_pos_right hlt (show 0 < q by omega)
        have k3 := Int.mul_le_mul_of_nonneg_right k1 (show 0 ≤ m by omega)
        have e1 : c * y * q = (c * q) * y := by grind
        have e2 : x * m * q = (x * q) * m := by grind
        have e3 : (n * q / d + 1) * y * m = ((n * q / d + 1) * m) * y := by grind
        rw [e1, e2] at k2
        rw [e3] at k3
        have k4 : (c * q) * y < ((n * q / d + 1) * m) * y := Int.lt_of_lt_of_le k2 k3
        have := Int.lt_of_mul_lt_mul_right k4 (by omega)
        omega
    · rw [if_neg hlt]
      refine ⟨i1, by simp only; omega, i3, i4, i5, i6, ?_⟩
      intro q q1 q2
      simp only
      by_cases hq : q = m
      · subst hq; rw [hc]; omega
      · exact i7 q q1 (by omega)
/-- What FnNextFarey asks of the next element. -/
theorem next_law {N n d : Int} (h : (nextM N n d).2.2 = 0) (hN : N ≤ 300) :
    okF n d = true ∧ (0 ≤ n ∧ n < d ∧ d ≤ 1000000000) ∧ okF (nextM N n d).1 (nextM N n d).2.1 = true ∧ ((nextM N n d).2.1 ≤ N ∧ 1 ≤ (nextM N n d).1 ∧ (nextM N n d).1 ≤ (nextM N n d).2.1) ∧ n * (nextM N n d).2.1 < (nextM N n d).1 * d ∧
      (1 ≤ N ∧ ∀ q : Int, 1 ≤ q → q ≤ N → (nextM N n d).1 * q ≤ (n * q / d + 1) * (nextM N n d).2.1) := by
  by_cases h0 : chkM N 10000 n d = 0
  · by_cases hnd : n = d
    · unfold nextM at h; rw [if_pos h0, if_pos hnd] at h; simp at h
    · have e : nextM N n d = ((nxtF n d N.toNat).1, (nxtF n d N.toNat).2, 0) := by unfold nextM; rw [if_pos h0, if_neg hnd]
      obtain ⟨a1, a2, a3, a4, a5⟩ := chk_zero h0
      obtain ⟨b1, b2, b3, b4⟩ := okF_bd a5
      rw [e]
      obtain ⟨i1, i2, i3, i4, i5, i6, i7⟩ := nxt_inv (n := n) (d := d) a3 (by omega) N.toNat (by omega)
      simp only
      refine ⟨a5, ⟨a3, by omega, b2⟩, okF_iff.2 ⟨⟨i1, by omega⟩, ⟨by omega, by omega⟩, i4⟩, ⟨by omega, i5, i6⟩, i3, a1, fun q q1 q2 => i7 q q1 (by omega)⟩
  · unfold nextM at h; rw [if_neg h0] at h; exact absurd h h0
end Go.Proofs.Ytlmmpeeacjbobaa
