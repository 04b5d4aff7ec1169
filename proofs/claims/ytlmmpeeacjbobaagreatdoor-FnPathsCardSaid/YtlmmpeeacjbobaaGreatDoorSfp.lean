/-
  Surds out of a head and a period, as plain functions; their terms are the head and the period again and again.
-/
import Derived.Test.YtlmmpeeacjbobaaGreatDoorRed
namespace Go.Proofs.YtlmmpeeacjbobaaGreatDoor
open Go.RowKit

abbrev Mt := (Int × Int) × (Int × Int)
def mtS (M : Mt) (t : Int) : Mt := ((t * M.1.1 + M.2.1, t * M.1.2 + M.2.2), M.1)
def mtx (l : List Int) : Mt := l.foldl mtS ((1, 0), (0, 1))
theorem mtx_snoc (l : List Int) (t : Int) : mtx (l ++ [t]) = mtS (mtx l) t := by simp [mtx]
theorem mtx_cons_aux (t : Int) : ∀ (l : List Int) (M M' : Mt), M'.1 = (t * M.1.1 + M.1.2, M.1.1) → M'.2 = (t * M.2.1 + M.2.2, M.2.1) →
    (l.foldl mtS M').1 = (t * (l.foldl mtS M).1.1 + (l.foldl mtS M).1.2, (l.foldl mtS M).1.1) ∧ (l.foldl mtS M').2 = (t * (l.foldl mtS M).2.1 + (l.foldl mtS M).2.2, (l.foldl mtS M).2.1)
  | [], M, M', h1, h2 => ⟨h1, h2⟩
  | s :: l, M, M', h1, h2 => by
    refine mtx_cons_aux t l (mtS M s) (mtS M' s) ?_ h1
    show (s * M'.1.1 + M'.2.1, s * M'.1.2 + M'.2.2) = (t * (s * M.1.1 + M.2.1) + (s * M.1.2 + M.2.2), s * M.1.1 + M.2.1)
    rw [h1, h2]
    refine Prod.ext ?_ rfl
    simp only
    grind
theorem mtx_cons (t : Int) (l : List Int) : mtx (t :: l) = ((t * (mtx l).1.1 + (mtx l).1.2, (mtx l).1.1), (t * (mtx l).2.1 + (mtx l).2.2, (mtx l).2.1)) := by
  have h := mtx_cons_aux t l ((1, 0), (0, 1)) ((t, 1), (1, 0)) (by simp) (by simp)
  have e : mtx (t :: l) = l.foldl mtS ((t, 1), (1, 0)) := by simp [mtx, mtS]
  rw [e]
  exact Prod.ext h.1 h.2
/-- What the matrices of terms from 1 on keep. -/
structure PosM (M : Mt) : Prop where
  pq : M.1.2 ≤ M.1.1
  q1 : 1 ≤ M.1.2
  pp : M.2.1 ≤ M.1.1
  p0 : 1 ≤ M.2.1
  pq0 : M.2.2 ≤ M.2.1
  q0 : 0 ≤ M.2.2
  qq : M.2.2 ≤ M.1.2
  det : M.1.1 * M.2.2 - M.2.1 * M.1.2 = 1 ∨ M.1.1 * M.2.2 - M.2.1 * M.1.2 = -1
theorem pos_one {t : Int} (h : 1 ≤ t) : PosM (mtx [t]) := by
  have e : mtx [t] = ((t, 1), (1, 0)) := by simp [mtx, mtS]
  rw [e]
  exact ⟨h, by simp, h, by simp, by simp, by simp, by simp, .inr (by simp)⟩
theorem pos_step {M : Mt} {t : Int} (h : PosM M) (ht : 1 ≤ t) : PosM (mtS M t) := by
  obtain ⟨h1, h2, h3, h4, h5, h6, h7, h8⟩ := h
  have m1 := Int.mul_le_mul_of_nonneg_right ht (show 0 ≤ M.1.1 by omega)
  have m2 := Int.mul_le_mul_of_nonneg_right ht (show 0 ≤ M.1.2 by omega)
  have m3 := Int.mul_le_mul_of_nonneg_left h1 (show 0 ≤ t by omega)
  refine ⟨?_, ?_, ?_, ?_, ?_, ?_, ?_, ?_⟩ <;> simp only [mtS]
  · omega
  · omega
  · omega
  · omega
  · omega
  · omega
  · omega
  · have e : (t * M.1.1 + M.2.1) * M.1.2 - M.1.1 * (t * M.1.2 + M.2.2) = -(M.1.1 * M.2.2 - M.2.1 * M.1.2) := by grind
    rw [e]
    omega
theorem pos_all : ∀ (l : List Int) (M : Mt), PosM M → (∀ t ∈ l, 1 ≤ t) → PosM (l.foldl mtS M)
  | [], _, h, _ => h
  | t :: l, M, h, hl => pos_all l (mtS M t) (pos_step h (hl t (by simp))) (fun s hs => hl s (by simp [hs]))
theorem pos_mtx {l : List Int} (h0 : l ≠ []) (hl : ∀ t ∈ l, 1 ≤ t) : PosM (mtx l) := by
  obtain ⟨t, l', rfl⟩ := List.exists_cons_of_ne_nil h0
  have e : mtx (t :: l') = l'.foldl mtS (mtx [t]) := by simp [mtx]
  rw [e]
  exact pos_all _ _ (pos_one (hl t (by simp))) (fun s hs => hl s (by simp [hs]))
/-! The surd of a matrix. -/
def puG (M : Mt) : Nat := Int.gcd (Int.gcd M.1.2 (M.2.2 - M.1.1)) (-M.2.1)
def puA (M : Mt) : Int := M.1.2 / (puG M : Nat)
def puB (M : Mt) : Int := (M.2.2 - M.1.1) / (puG M : Nat)
def puC (M : Mt) : Int := -M.2.1 / (puG M : Nat)
def puP (M : Mt) : Int := if puB M % 2 = 0 then -puB M / 2 else -puB M
def puD (M : Mt) : Int := if puB M % 2 = 0 then (puB M * puB M - 4 * puA M * puC M) / 4 else puB M * puB M - 4 * puA M * puC M
def puQ (M : Mt) : Int := if puB M % 2 = 0 then puA M else 2 * puA M
theorem pu_dvd (M : Mt) : ((puG M : Nat) : Int) ∣ M.1.2 ∧ ((puG M : Nat) : Int) ∣ M.2.2 - M.1.1 ∧ ((puG M : Nat) : Int) ∣ -M.2.1 := by
  have h1 := Int.gcd_dvd_left (Int.gcd M.1.2 (M.2.2 - M.1.1) : Int) (-M.2.1)
  have h2 := Int.gcd_dvd_right (Int.gcd M.1.2 (M.2.2 - M.1.1) : Int) (-M.2.1)
  exact ⟨Int.dvd_trans h1 (Int.gcd_dvd_left _ _), Int.dvd_trans h1 (Int.gcd_dvd_right _ _), h2⟩
theorem pu_eqs (M : Mt) : M.1.2 = (puG M : Nat) * puA M ∧ M.2.2 - M.1.1 = (puG M : Nat) * puB M ∧ -M.2.1 = (puG M : Nat) * puC M := by
  obtain ⟨h1, h2, h3⟩ := pu_dvd M
  exact ⟨(Int.mul_ediv_cancel' h1).symm, (Int.mul_ediv_cancel' h2).symm, (Int.mul_ediv_cancel' h3).symm⟩
theorem pu_char (M : Mt) : ∃ h : Int, (h = 1 ∨ h = 2) ∧ (h = 2 ↔ puB M % 2 = 0) ∧ h * puP M = -puB M ∧ h * puQ M = 2 * puA M ∧ h * h * puD M = puB M * puB M - 4 * puA M * puC M := by
  unfold puP puD puQ
  by_cases he : puB M % 2 = 0
  · rw [if_pos he, if_pos he, if_pos he]
    refine ⟨2, .inr rfl, ⟨fun _ => he, fun _ => rfl⟩, by omega, rfl, ?_⟩
    obtain ⟨k, hk⟩ : ∃ k, puB M = 2 * k := ⟨puB M / 2, by omega⟩
    rw [hk]
    have e : 2 * k * (2 * k) - 4 * puA M * puC M = 4 * (k * k - puA M * puC M) := by grind
    rw [e, Int.mul_ediv_cancel_left _ (by decide)]
    grind
  · rw [if_neg he, if_neg he, if_neg he]
    exact ⟨1, .inl rfl, ⟨fun h => by omega, fun h => absurd h he⟩, by omega, by omega, by omega⟩
theorem gcd3_dvd {g : Int} {a b c : Int} (h1 : g ∣ a) (h2 : g ∣ b) (h3 : g ∣ c) : g ∣ (Int.gcd (Int.gcd a b) c : Int) := Int.dvd_coe_gcd (Int.dvd_coe_gcd h1 h2) h3
/-- Turning a period by one term. -/
theorem pu_turn {M M' : Mt} {t : Int} (e1 : M'.1.2 = -(M.1.2 * t * t + (M.2.2 - M.1.1) * t + -M.2.1)) (e2 : M'.2.2 - M'.1.1 = -(2 * M.1.2 * t + (M.2.2 - M.1.1))) (e3 : -M'.2.1 = -M.1.2) :
    puG M' = puG M ∧ (1 ≤ puG M → puA M' = -(puA M * t * t + puB M * t + puC M) ∧ puB M' = -(2 * puA M * t + puB M) ∧ puC M' = -puA M) := by
  have hG : puG M' = puG M := by
    obtain ⟨d1, d2, d3⟩ := pu_dvd M
    obtain ⟨c1, c2, c3⟩ := pu_dvd M'
    have x1 : ((puG M : Nat) : Int) ∣ (puG M' : Nat) := by
      refine gcd3_dvd ?_ ?_ ?_
      · rw [e1]; exact Int.dvd_neg.2 (Int.dvd_add (Int.dvd_add (Int.dvd_mul_of_dvd_left (Int.dvd_mul_of_dvd_left d1)) (Int.dvd_mul_of_dvd_left d2)) d3)
      · rw [e2]; exact Int.dvd_neg.2 (Int.dvd_add (Int.dvd_mul_of_dvd_left (Int.dvd_mul_of_dvd_right d1)) d2)
      · rw [e3]; exact Int.dvd_neg.2 d1
    have f1 : M.1.2 = -(-M'.2.1) := by omega
    have f2 : M.2.2 - M.1.1 = -(M'.2.2 - M'.1.1) - 2 * M.1.2 * t := by omega
    have f3 : -M.2.1 = -M'.1.2 - M.1.2 * t * t - (M.2.2 - M.1.1) * t := by omega
    have y1 : ((puG M' : Nat) : Int) ∣ M.1.2 := by rw [f1]; exact Int.dvd_neg.2 c3
    have y2 : ((puG M' : Nat) : Int) ∣ M.2.2 - M.1.1 := by rw [f2]; exact Int.dvd_sub (Int.dvd_neg.2 c2) (Int.dvd_mul_of_dvd_left (Int.dvd_mul_of_dvd_right y1))
    have y3 : ((puG M' : Nat) : Int) ∣ -M.2.1 := by rw [f3]; exact Int.dvd_sub (Int.dvd_sub (Int.dvd_neg.2 c1) (Int.dvd_mul_of_dvd_left (Int.dvd_mul_of_dvd_left y1))) (Int.dvd_mul_of_dvd_left y2)
    have x2 : ((puG M' : Nat) : Int) ∣ (puG M : Nat) := gcd3_dvd y1 y2 y3
    exact Nat.dvd_antisymm (Int.natCast_dvd_natCast.1 x2) (Int.natCast_dvd_natCast.1 x1)
  refine ⟨hG, fun hg => ?_⟩
  obtain ⟨a1, a2, a3⟩ := pu_eqs M
  obtain ⟨b1, b2, b3⟩ := pu_eqs M'
  rw [hG] at b1 b2 b3
  have hg1 : (1 : Int) ≤ ((puG M : Nat) : Int) := by omega
  clear hg
  generalize ((puG M : Nat) : Int) = g at *
  have hg0 : g ≠ 0 := by omega
  refine ⟨?_, ?_, ?_⟩
  · apply Int.eq_of_mul_eq_mul_left hg0
    rw [← b1, e1, a1, a2, a3]
    grind
  · apply Int.eq_of_mul_eq_mul_left hg0
    rw [← b2, e2, a1, a2]
    grind
  · apply Int.eq_of_mul_eq_mul_left hg0
    rw [← b3, e3, a1]
    grind
theorem pu_gpos {M : Mt} (h : PosM M) : 1 ≤ puG M := by
  rcases Nat.eq_zero_or_pos (puG M) with e | e
  · exfalso
    have := (pu_dvd M).1
    rw [e] at this
    have := Int.zero_dvd.1 this
    have := h.q1
    omega
  · exact e
theorem pu_next {M M' : Mt} {t : Int} (h : PosM M) (e1 : M'.1.2 = -(M.1.2 * t * t + (M.2.2 - M.1.1) * t + -M.2.1)) (e2 : M'.2.2 - M'.1.1 = -(2 * M.1.2 * t + (M.2.2 - M.1.1))) (e3 : -M'.2.1 = -M.1.2) :
    puD M' = puD M ∧ puP M' = t * puQ M - puP M ∧ puQ M * puQ M' = puD M - puP M' * puP M' := by
  obtain ⟨hG, hABC⟩ := pu_turn e1 e2 e3
  obtain ⟨u1, u2, u3⟩ := hABC (pu_gpos h)
  obtain ⟨k, k1, k2, k3, k4, k5⟩ := pu_char M
  obtain ⟨k', l1, l2, l3, l4, l5⟩ := pu_char M'
  have hpar : puB M' % 2 = puB M % 2 := by
    rw [u2, show 2 * puA M * t = 2 * (puA M * t) by grind]
    generalize puA M * t = z
    omega
  rw [hpar] at l2
  have hk : k' = k := by
    rcases k1 with rfl | rfl <;> rcases l1 with rfl | rfl
    · rfl
    · have := k2.2 (l2.1 rfl); omega
    · have := l2.2 (k2.1 rfl); omega
    · rfl
  subst hk
  have hk0 : k' ≠ 0 := by omega
  have hkk : k' * k' ≠ 0 := by rcases k1 with e | e <;> rw [e] <;> decide
  have hP : puP M' = t * puQ M - puP M := by
    apply Int.eq_of_mul_eq_mul_left hk0
    rw [l3, u2]
    have : k' * (t * puQ M - puP M) = t * (k' * puQ M) - k' * puP M := by grind
    rw [this, k4, k3]
    grind
  have hD : puD M' = puD M := by
    apply Int.eq_of_mul_eq_mul_left hkk
    rw [l5, k5, u1, u2, u3]
    grind
  refine ⟨hD, hP, ?_⟩
  apply Int.eq_of_mul_eq_mul_left hkk
  have x1 : k' * k' * (puQ M * puQ M') = (k' * puQ M) * (k' * puQ M') := by grind
  have x2 : k' * k' * (puD M - puP M' * puP M') = k' * k' * puD M' - (k' * puP M') * (k' * puP M') := by rw [hD]; grind
  rw [x1, x2, k4, l4, l5, l3, u3]
  grind
/-- The surd of a period is reduced. -/
theorem pu_red {M : Mt} {a0 : Int} (h : PosM M) (R : RootD (puD M) a0) : RedX (puD M) a0 (puP M, puQ M) := by
  obtain ⟨k, k1, k2, k3, k4, k5⟩ := pu_char M
  obtain ⟨a1, a2, a3⟩ := pu_eqs M
  have hg := pu_gpos h
  obtain ⟨h1, h2, h3, h4, h5, h6, h7, h8⟩ := h
  have f1 : M.1.2 + M.2.2 < M.1.1 + M.2.1 := by
    rcases Int.lt_or_le (M.1.2 + M.2.2) (M.1.1 + M.2.1) with g | g
    · exact g
    · exfalso
      have e1 : M.1.2 = M.1.1 := by omega
      have e2 : M.2.2 = M.2.1 := by omega
      rw [e1, e2, Int.mul_comm] at h8
      omega
  have f2 : M.2.1 + M.2.2 < M.1.1 + M.1.2 := by
    rcases Int.lt_or_le (M.2.1 + M.2.2) (M.1.1 + M.1.2) with g | g
    · exact g
    · exfalso
      have e1 : M.2.1 = M.1.1 := by omega
      have e2 : M.2.2 = M.1.2 := by omega
      rw [e1, e2] at h8
      omega
  generalize hG : ((puG M : Nat) : Int) = g at *
  have hg : 1 ≤ g := by omega
  generalize puA M = a at *
  generalize puB M = b at *
  generalize puC M = c at *
  have pos : ∀ z : Int, 0 < g * z → 0 < z := fun z hz => by
    rcases Int.lt_or_le 0 z with e | e
    · exact e
    · have := Int.mul_nonneg (show 0 ≤ g by omega) (show 0 ≤ -z by omega)
      rw [Int.mul_neg] at this
      omega
  have ga : 0 < a := pos a (by rw [← a1]; omega)
  have gc : 0 < -c := pos (-c) (by rw [Int.mul_neg, ← a3]; omega)
  have g1 : 0 < -(a + b + c) := pos _ (by
    have : g * -(a + b + c) = -(g * a + g * b + g * c) := by grind
    rw [this, ← a1, ← a2, ← a3]; omega)
  have g2 : 0 < a - b + c := pos _ (by
    have : g * (a - b + c) = g * a - g * b + g * c := by grind
    rw [this, ← a1, ← a2, ← a3]; omega)
  generalize puP M = P at *
  generalize puQ M = Q at *
  generalize puD M = D at *
  have kp : ∀ z : Int, 0 < k * k * z → 0 < z := fun z hz => by rcases k1 with rfl | rfl <;> omega
  have kq : ∀ z : Int, 0 < k * z → 0 < z := fun z hz => by rcases k1 with rfl | rfl <;> omega
  have mac : 0 < a * -c := Int.mul_pos ga gc
  have mf1 : 0 < a * -(a + b + c) := Int.mul_pos ga g1
  have mf2 : 0 < a * (a - b + c) := Int.mul_pos ga g2
  have q1 : 0 < Q := kq Q (by omega)
  have s1 : 0 < D - P * P := kp _ (by
    have : k * k * (D - P * P) = k * k * D - (k * P) * (k * P) := by grind
    rw [this, k5, k3]
    have : b * b - 4 * a * c - -b * -b = 4 * (a * -c) := by grind
    omega)
  have s2 : 0 < D - (Q - P) * (Q - P) := kp _ (by
    have : k * k * (D - (Q - P) * (Q - P)) = k * k * D - (k * Q - k * P) * (k * Q - k * P) := by grind
    rw [this, k5, k3, k4]
    have : b * b - 4 * a * c - (2 * a - -b) * (2 * a - -b) = 4 * (a * -(a + b + c)) := by grind
    omega)
  have s3 : 0 < (Q + P) * (Q + P) - D := kp _ (by
    have : k * k * ((Q + P) * (Q + P) - D) = (k * Q + k * P) * (k * Q + k * P) - k * k * D := by grind
    rw [this, k5, k3, k4]
    have : (2 * a + -b) * (2 * a + -b) - (b * b - 4 * a * c) = 4 * (a * (a - b + c)) := by grind
    omega)
  have s4 : 0 < Q + P := kq _ (by rw [Int.mul_add, k4, k3]; omega)
  have r1 : -a0 ≤ P ∧ P ≤ a0 := by rcases sq_ne R P with e | e <;> omega
  have r2 : Q - P ≤ a0 := by rcases sq_ne R (Q - P) with e | e <;> omega
  have r3 : a0 < Q + P := by
    have o := R.one
    rcases sq_ne R (Q + P) with e | e <;> omega
  refine ⟨⟨by simp only; omega, by simp only; omega⟩, ⟨by simp only; omega, by simp only; omega, by simp only; omega⟩, ?_⟩
  show Q ∣ D - P * P
  rcases k1 with rfl | rfl
  · refine ⟨-2 * c, ?_⟩
    have e1 : P = -b := by omega
    have e2 : Q = 2 * a := by omega
    have e3 : D = b * b - 4 * a * c := by omega
    rw [e1, e2, e3]
    grind
  · refine ⟨-c, ?_⟩
    have e2 : Q = a := by omega
    have e3 : 4 * D = b * b - 4 * a * c := by omega
    have e4 : 4 * (P * P) = b * b := by have : (2 * P) * (2 * P) = -b * -b := by rw [k3]
                                        have t1 : (2 * P) * (2 * P) = 4 * (P * P) := by grind
                                        have t2 : -b * -b = b * b := by grind
                                        omega
    have e5 : 4 * (Q * -c) = -(4 * a * c) := by rw [e2]; grind
    omega
def pqP (l : List Int) : Int × Int := (puP (mtx l), puQ (mtx l))
theorem pu_cons {t a0 : Int} {ts : List Int} (ht : 1 ≤ t) (hts : ∀ s ∈ ts, 1 ≤ s) (R : RootD (puD (mtx (t :: ts))) a0) :
    puD (mtx (ts ++ [t])) = puD (mtx (t :: ts)) ∧ nxt (puD (mtx (t :: ts))) (pqP (t :: ts)) = pqP (ts ++ [t]) ∧ tmX (puD (mtx (t :: ts))) (pqP (t :: ts)) = t := by
  have hp : PosM (mtx (t :: ts)) := pos_mtx (by simp) (by intro s hs; rcases List.mem_cons.1 hs with e | hs <;> first | (rw [e]; exact ht) | exact hts s hs)
  have hp' : PosM (mtx (ts ++ [t])) := pos_mtx (by simp) (by
    intro s hs
    rcases List.mem_append.1 hs with hs | hs
    · exact hts s hs
    · rw [List.mem_singleton] at hs; subst hs; exact ht)
  have e := mtx_cons t ts
  have e' := mtx_snoc ts t
  obtain ⟨n1, n2, n3⟩ := pu_next (M := mtx (t :: ts)) (M' := mtx (ts ++ [t])) (t := t) hp (by rw [e, e']; simp only [mtS]; grind) (by rw [e, e']; simp only [mtS]; grind) (by rw [e, e']; simp only [mtS])
  have hr := pu_red hp R
  have hr' := pu_red (M := mtx (ts ++ [t])) (a0 := a0) hp' (by rw [n1]; exact R)
  rw [n1] at hr'
  obtain ⟨⟨a1, a2⟩, ⟨a3, a4, a5⟩, _⟩ := hr
  obtain ⟨⟨b1, b2⟩, ⟨b3, b4, b5⟩, _⟩ := hr'
  simp only at a1 a2 a3 a4 a5 b1 b2 b3 b4 b5
  have l := R.low
  have hlt : a0 - puP (mtx (ts ++ [t])) < puQ (mtx (t :: ts)) := by
    rcases Int.lt_or_le (a0 - puP (mtx (ts ++ [t]))) (puQ (mtx (t :: ts))) with g | g
    · exact g
    · exfalso
      have m1 := Int.mul_le_mul_of_nonneg_right g (show 0 ≤ puQ (mtx (ts ++ [t])) by omega)
      have m2 := Int.mul_le_mul_of_nonneg_left b4 (show 0 ≤ a0 - puP (mtx (ts ++ [t])) by omega)
      have m3 : (a0 - puP (mtx (ts ++ [t]))) * (a0 + puP (mtx (ts ++ [t]))) = a0 * a0 - puP (mtx (ts ++ [t])) * puP (mtx (ts ++ [t])) := by grind
      omega
  have hfl : t = (puP (mtx (t :: ts)) + a0) / puQ (mtx (t :: ts)) := by
    have e : puP (mtx (t :: ts)) + a0 = (a0 - puP (mtx (ts ++ [t]))) + t * puQ (mtx (t :: ts)) := by omega
    rw [e, Int.add_mul_ediv_right _ _ (by omega), Int.ediv_eq_zero_of_lt (by omega) (by omega)]
    omega
  have hn := nxt_eq (p := puP (mtx (t :: ts))) (q := puQ (mtx (t :: ts))) (a := t) (p' := puP (mtx (ts ++ [t]))) (q' := puQ (mtx (ts ++ [t]))) R a3 hfl n2 n3
  exact ⟨n1, hn.1, hn.2⟩
/-- The first n terms. -/
def tmN (d : Int) (x : Int × Int) (n : Nat) : List Int := (List.range n).map fun k => tmX d (orb d x k)
theorem tmN_succ (d : Int) (x : Int × Int) (n : Nat) : tmN d x (n + 1) = tmX d x :: tmN d (nxt d x) n := by
  unfold tmN
  rw [List.range_succ_eq_map, List.map_cons, List.map_map]
  refine List.cons_eq_cons.2 ⟨rfl, ?_⟩
  apply List.map_congr_left
  intro k _
  show tmX d (orb d x (k + 1)) = _
  rw [orb_shift]
theorem tmN_add (d : Int) (x : Int × Int) (a : Nat) : ∀ b, tmN d x (a + b) = tmN d x a ++ tmN d (orb d x a) b := by
  intro b
  induction a generalizing x with
  | zero => rw [Nat.zero_add]; rfl
  | succ a ih =>
    rw [show a + 1 + b = (a + b) + 1 by omega, tmN_succ, tmN_succ, ih, orb_shift]
    rfl
theorem pu_terms (d a0 : Int) (R : RootD d a0) : ∀ (a b : List Int), (∀ s ∈ a ++ b, 1 ≤ s) → puD (mtx (a ++ b)) = d → tmN d (pqP (a ++ b)) a.length = a ∧ orb d (pqP (a ++ b)) a.length = pqP (b ++ a) ∧ puD (mtx (b ++ a)) = d
  | [], b, _, hd => ⟨rfl, by simp [orb], by simpa using hd⟩
  | t :: a, b, hs, hd => by
    have ht : 1 ≤ t := hs t (by simp)
    have hts : ∀ s ∈ a ++ b, 1 ≤ s := fun s h => hs s (by simp at h ⊢; exact .inr h)
    have e : (t :: a) ++ b = t :: (a ++ b) := rfl
    rw [e] at hd ⊢
    obtain ⟨c1, c2, c3⟩ := pu_cons (t := t) (ts := a ++ b) (a0 := a0) ht hts (by rw [hd]; exact R)
    rw [hd] at c1 c2 c3
    rw [List.append_assoc] at c1 c2
    obtain ⟨i1, i2, i3⟩ := pu_terms d a0 R a (b ++ [t]) (by
      intro s h
      rcases List.mem_append.1 h with h | h
      · exact hts s (by simp [h])
      · rcases List.mem_append.1 h with h | h
        · exact hts s (by simp [h])
        · rw [List.mem_singleton] at h; subst h; exact ht) c1
    rw [List.length_cons, tmN_succ, c2, c3, i1, ← orb_shift, c2, i2]
    rw [List.append_assoc] at i3 ⊢
    exact ⟨rfl, rfl, i3⟩
/-- A period's terms, n times over. -/
theorem pu_rounds (d a0 : Int) (R : RootD d a0) (l : List Int) (hs : ∀ s ∈ l, 1 ≤ s) (hd : puD (mtx l) = d) : ∀ n, tmN d (pqP l) (l.length * n) = (List.replicate n l).flatten ∧ orb d (pqP l) (l.length * n) = pqP l
  | 0 => ⟨rfl, rfl⟩
  | n + 1 => by
    obtain ⟨h1, h2, _⟩ := pu_terms d a0 R l [] (by simpa using hs) (by simpa using hd)
    rw [List.append_nil, List.nil_append] at *
    obtain ⟨i1, i2⟩ := pu_rounds d a0 R l hs hd n
    rw [show l.length * (n + 1) = l.length + l.length * n by rw [Nat.mul_succ]; omega, tmN_add, h1, h2, i1, ← orb_add, h2, i2]
    exact ⟨by simp [List.replicate_succ], rfl⟩
/-! The head. -/
/-- The surd is greater than 1, told by what lies below it. -/
def Gr (d a0 : Int) (y : Int × Int) (B : Int) : Prop := y.2 ≠ 0 ∧ B * y.2 = d - y.1 * y.1 ∧ (0 < B → a0 - B < y.1 ∧ y.1 ≤ a0) ∧ (B < 0 → a0 < y.1 ∧ y.1 ≤ a0 - B)
theorem gr_red {d a0 : Int} (R : RootD d a0) {y : Int × Int} (h : RedX d a0 y) : Gr d a0 y ((d - y.1 * y.1).tdiv y.2) := by
  obtain ⟨⟨h1, h2⟩, ⟨h3, h4, h5⟩, h6⟩ := h
  have l := R.low
  have hB : (d - y.1 * y.1).tdiv y.2 * y.2 = d - y.1 * y.1 := Int.tdiv_mul_cancel h6
  generalize (d - y.1 * y.1).tdiv y.2 = B at *
  have hs : y.1 * y.1 < d := by rcases sq_ne R y.1 with e | e <;> omega
  have hp : 0 < B := by
    rcases Int.lt_or_le 0 B with e | e
    · exact e
    · have := Int.mul_nonneg (show 0 ≤ -B by omega) (show 0 ≤ y.2 by omega)
      rw [Int.neg_mul] at this
      omega
  refine ⟨by omega, hB, fun _ => ⟨?_, h2⟩, fun e => by omega⟩
  rcases Int.lt_or_le (a0 - B) y.1 with e | e
  · exact e
  · exfalso
    have m1 := Int.mul_le_mul_of_nonneg_right (show B ≤ a0 - y.1 by omega) (show 0 ≤ y.2 by omega)
    have m2 := Int.mul_le_mul_of_nonneg_left h4 (show 0 ≤ a0 - y.1 by omega)
    have m3 : (a0 - y.1) * (a0 + y.1) = a0 * a0 - y.1 * y.1 := by grind
    omega
theorem gr_ne {d a0 : Int} (R : RootD d a0) {y : Int × Int} {B : Int} (h : Gr d a0 y B) : B ≠ 0 := by
  intro e
  have := h.2.1
  rw [e, Int.zero_mul] at this
  rcases sq_ne R y.1 with f | f <;> omega
/-- The surd t + 1 / y has the term t, and y behind it. -/
theorem gr_step {d a0 : Int} (R : RootD d a0) {y : Int × Int} {B : Int} (h : Gr d a0 y B) (t : Int) : nxt d (t * B - y.1, B) = y ∧ tmX d (t * B - y.1, B) = t := by
  have hB0 := gr_ne R h
  obtain ⟨h1, h2, h3, h4⟩ := h
  have hfl : flS (t * B - y.1) d B = t := by
    unfold flS
    rw [R.isq]
    have e : t * B - y.1 + a0 = (a0 - y.1) + t * B := by omega
    rcases Int.lt_or_le 0 B with g | g
    · obtain ⟨g1, g2⟩ := h3 g
      rw [if_pos g, e, Int.add_mul_ediv_right _ _ hB0, Int.ediv_eq_zero_of_lt (by omega) (by omega)]
      omega
    · obtain ⟨g1, g2⟩ := h4 (by omega)
      rw [if_neg (by omega), e, Int.add_mul_ediv_right _ _ hB0]
      have e2 : a0 - y.1 = (a0 - y.1 - B) + 1 * B := by omega
      rw [e2, Int.add_mul_ediv_right _ _ hB0]
      have e3 : (a0 - y.1 - B) / B = 0 := by
        rw [show B = -(-B) by omega, Int.ediv_neg, Int.ediv_eq_zero_of_lt (by omega) (by omega)]
        rfl
      rw [e3]
      omega
  have hh : hdS (t * B - y.1) d B = y.1 := by unfold hdS; rw [hfl]; omega
  refine ⟨?_, hfl⟩
  show (hdS (t * B - y.1) d B, tlS (t * B - y.1) d B) = y
  unfold tlS
  rw [hh, ← h2, Int.mul_tdiv_cancel_left _ hB0]
/-- And it is greater than 1 itself where t is 1 at least. -/
theorem gr_up {d a0 : Int} (R : RootD d a0) {y : Int × Int} {B : Int} (h : Gr d a0 y B) {t : Int} (ht : 1 ≤ t) : Gr d a0 (t * B - y.1, B) ((d - (t * B - y.1) * (t * B - y.1)).tdiv B) := by
  have hB0 := gr_ne R h
  have l := R.low
  have u := R.up
  have o := R.one
  obtain ⟨h1, h2, h3, h4⟩ := h
  have hdv : B ∣ d - (t * B - y.1) * (t * B - y.1) := by
    refine ⟨y.2 - t * t * B + 2 * t * y.1, ?_⟩
    have : d = B * y.2 + y.1 * y.1 := by omega
    rw [this]; grind
  have hC : (d - (t * B - y.1) * (t * B - y.1)).tdiv B * B = d - (t * B - y.1) * (t * B - y.1) := Int.tdiv_mul_cancel hdv
  generalize (d - (t * B - y.1) * (t * B - y.1)).tdiv B = C at *
  refine ⟨hB0, hC, ?_⟩
  simp only
  rcases Int.lt_or_le 0 B with g | g
  · obtain ⟨g1, g2⟩ := h3 g
    have m0 := Int.mul_le_mul_of_nonneg_right ht (show 0 ≤ B by omega)
    generalize hs : t * B - y.1 = s at *
    have hsB : B ≤ s + a0 := by omega
    rcases sq_ne R s with ⟨e1, e2, e3⟩ | ⟨e1, e2⟩
    · have hp : 0 < C := by
        rcases Int.lt_or_le 0 C with e | e
        · exact e
        · have := Int.mul_nonneg (show 0 ≤ -C by omega) (show 0 ≤ B by omega)
          rw [Int.neg_mul] at this
          omega
      refine ⟨fun _ => ⟨?_, e3⟩, fun e => by omega⟩
      rcases Int.lt_or_le (a0 - C) s with e | e
      · exact e
      · exfalso
        have m1 := Int.mul_le_mul_of_nonneg_right (show C ≤ a0 - s by omega) (show 0 ≤ B by omega)
        have m2 := Int.mul_le_mul_of_nonneg_left hsB (show 0 ≤ a0 - s by omega)
        have m3 : (a0 - s) * (s + a0) = a0 * a0 - s * s := by grind
        omega
    · have e4 : a0 < s := by omega
      have hn : C < 0 := by
        rcases Int.lt_or_le C 0 with e | e
        · exact e
        · have := Int.mul_nonneg e (show 0 ≤ B by omega)
          omega
      refine ⟨fun e => by omega, fun _ => ⟨e4, ?_⟩⟩
      rcases Int.lt_or_le (a0 - C) s with e | e
      · exfalso
        have m1 := Int.mul_le_mul_of_nonneg_right (show -C ≤ s - a0 - 1 by omega) (show 0 ≤ B by omega)
        have m2 := Int.mul_le_mul_of_nonneg_left hsB (show 0 ≤ s - a0 - 1 by omega)
        have m3 : (s - a0 - 1) * (s + a0) = s * s - a0 * a0 - s - a0 := by grind
        have m4 : (a0 + 1) * (a0 + 1) = a0 * a0 + 2 * a0 + 1 := by grind
        rw [Int.neg_mul] at m1
        omega
      · exact e
  · obtain ⟨g1, g2⟩ := h4 (by omega)
    have m0 := Int.mul_le_mul_of_nonneg_right ht (show 0 ≤ -B by omega)
    have e0 : t * -B = -(t * B) := by grind
    generalize hs : t * B - y.1 = s at *
    have hw : -B + a0 + 1 ≤ -s := by omega
    have e1 : d < s * s := by
      have := sq_mono (show 0 ≤ a0 + 1 by omega) (show a0 + 1 ≤ -s by omega)
      have e : -s * -s = s * s := by grind
      omega
    have hp : 0 < C := by
      rcases Int.lt_or_le 0 C with e | e
      · exact e
      · have := Int.mul_nonneg (show 0 ≤ -C by omega) (show 0 ≤ -B by omega)
        have e : -C * -B = C * B := by grind
        omega
    refine ⟨fun _ => ⟨?_, by omega⟩, fun e => by omega⟩
    rcases Int.lt_or_le (a0 - C) s with e | e
    · exact e
    · exfalso
      have m1 := Int.mul_le_mul_of_nonneg_right (show C ≤ a0 - s by omega) (show 0 ≤ -B by omega)
      have m2 := Int.mul_le_mul_of_nonneg_left (show -B ≤ -s - a0 - 1 by omega) (show 0 ≤ a0 - s + 1 by omega)
      have m3 : (a0 - s + 1) * (-s - a0 - 1) = s * s - (a0 + 1) * (a0 + 1) := by grind
      have m4 : C * -B = -(C * B) := by grind
      have m5 : (a0 - s + 1) * -B = (a0 - s) * -B + -B := by grind
      omega
def blX (d : Int) (y : Int × Int) : Int := (d - y.1 * y.1).tdiv y.2
/-- The head put ahead of a surd, from the last term to the first. -/
def sfH (d : Int) : List Int → Int × Int → Option (Int × Int)
  | [], x => if okX d x then some x else none
  | t :: ts, x => match sfH d ts x with
    | some y => if okX d (t * blX d y - y.1, blX d y) then some (t * blX d y - y.1, blX d y) else none
    | none => none
theorem sfH_ok {d : Int} : ∀ {h : List Int} {x y : Int × Int}, sfH d h x = some y → okX d y = true
  | [], x, y, e => by
    unfold sfH at e
    split at e
    · rename_i hk; cases e; exact hk
    · cases e
  | t :: h, x, y, e => by
    unfold sfH at e
    split at e
    · split at e
      · rename_i hk; cases e; exact hk
      · cases e
    · cases e
theorem sfH_terms {d a0 : Int} (R : RootD d a0) {x : Int × Int} (hx : RedX d a0 x) : ∀ {h : List Int} {y : Int × Int}, sfH d h x = some y → (∀ s ∈ h.drop 1, 1 ≤ s) →
    tmN d y h.length = h ∧ orb d y h.length = x ∧ (∀ k, k ≤ h.length → okX d (orb d y k) = true) ∧ ((∀ s ∈ h, 1 ≤ s) → Gr d a0 y (blX d y))
  | [], y, e, _ => by
    have hk := sfH_ok e
    unfold sfH at e
    split at e
    · cases e
      refine ⟨rfl, rfl, fun k hk2 => ?_, fun _ => gr_red R hx⟩
      obtain rfl : k = 0 := by simpa using hk2
      exact hk
    · cases e
  | t :: h, y, e, hs => by
    have hk := sfH_ok e
    unfold sfH at e
    split at e
    · rename_i z hz
      split at e
      · cases e
        have hs' : ∀ s ∈ h, 1 ≤ s := by simpa using hs
        obtain ⟨i1, i2, i3, i4⟩ := sfH_terms R hx hz (fun s hm => hs' s (List.mem_of_mem_drop hm))
        have hg := i4 hs'
        obtain ⟨n1, n2⟩ := gr_step R hg t
        refine ⟨?_, ?_, ?_, fun ha => gr_up R hg (ha t (by simp))⟩
        · rw [List.length_cons, tmN_succ, n1, n2, i1]
        · rw [List.length_cons, ← orb_shift, n1, i2]
        · intro k hk2
          cases k with
          | zero => exact hk
          | succ k =>
            rw [← orb_shift, n1]
            exact i3 k (by simpa using hk2)
      · cases e
    · cases e
/-- The terms of a surd that is made of a head and a period. -/
theorem sf_terms {h l : List Int} {y : Int × Int} (h0 : l ≠ []) (hl : ∀ s ∈ l, 1 ≤ s) (hs : ∀ s ∈ h.drop 1, 1 ≤ s) (e : sfH (puD (mtx l)) h (pqP l) = some y) (n : Nat) :
    tmN (puD (mtx l)) y (h.length + l.length * n) = h ++ (List.replicate n l).flatten ∧ ∀ k, okX (puD (mtx l)) (orb (puD (mtx l)) y k) = true := by
  have hk := sfH_ok e
  obtain ⟨a0, R, _⟩ := okX_root hk
  have hr := pu_red (pos_mtx h0 hl) R
  obtain ⟨i1, i2, i3, _⟩ := sfH_terms R hr e hs
  obtain ⟨j1, j2⟩ := pu_rounds _ a0 R l hl rfl n
  refine ⟨?_, fun k => ?_⟩
  · rw [tmN_add, i1, i2]
    show _ ++ tmN _ (pqP l) _ = _
    rw [j1]
  · rcases Nat.lt_or_ge h.length k with g | g
    · obtain ⟨m, rfl⟩ : ∃ m, k = h.length + m := ⟨k - h.length, by omega⟩
      rw [← orb_add, i2]
      exact red_ok R (red_on R hr m)
    · exact i3 k g
end Go.Proofs.YtlmmpeeacjbobaaGreatDoor
