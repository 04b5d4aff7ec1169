/-
  Surds that come again are reduced; the walk of a reduced surd has no head.
-/
import Derived.Test.YtlmmpeeacjbobaaGreatDoorPer
import Derived.Test.YtlmmpeeacjbobaaGreatDoorSurd2
namespace Go.Proofs.YtlmmpeeacjbobaaGreatDoor
open Go.RowKit

theorem isq_cast {d a0 : Int} (R : RootD d a0) : ((isq d.toNat : Nat) : Int) = a0 := R.isq
theorem sq_ne {d a0 : Int} (R : RootD d a0) (p : Int) : (p * p < d ∧ -a0 ≤ p ∧ p ≤ a0) ∨ (d < p * p ∧ (a0 < p ∨ p < -a0)) := by
  have h1 := R.low
  have h2 := R.up
  have h3 := R.one
  rcases Int.lt_or_le a0 p with h | h
  · exact .inr ⟨by have := sq_mono (show 0 ≤ a0 + 1 by omega) (show a0 + 1 ≤ p by omega); omega, .inl h⟩
  · rcases Int.lt_or_le p (-a0) with g | g
    · refine .inr ⟨?_, .inr g⟩
      have := sq_mono (show 0 ≤ a0 + 1 by omega) (show a0 + 1 ≤ -p by omega)
      have e : -p * -p = p * p := by grind
      omega
    · refine .inl ⟨?_, g, h⟩
      have m := Int.mul_nonneg (show 0 ≤ a0 - p by omega) (show 0 ≤ a0 + p by omega)
      have e : (a0 - p) * (a0 + p) = a0 * a0 - p * p := by grind
      omega
/-- What a step leads to. -/
structure Step (d a0 : Int) (x y : Int × Int) : Prop where
  mul : x.2 * y.2 = d - y.1 * y.1
  pos : 0 < x.2 → a0 - x.2 < y.1 ∧ y.1 ≤ a0
  neg : x.2 < 0 → a0 < y.1 ∧ y.1 ≤ a0 - x.2
  sum : y.1 = tmX d x * x.2 - x.1
theorem step_of {d a0 : Int} (R : RootD d a0) {x : Int × Int} (hq : x.2 ≠ 0) (hd : x.2 ∣ d - x.1 * x.1) : Step d a0 x (nxt d x) := by
  obtain ⟨p, q⟩ := x
  simp only at hq hd
  have hs : hdS p d q = flS p d q * q - p := rfl
  have hdv : q ∣ d - hdS p d q * hdS p d q := by
    obtain ⟨k, hk⟩ := hd
    refine ⟨k + 2 * flS p d q * p - flS p d q * flS p d q * q, ?_⟩
    rw [hs]
    have : d = q * k + p * p := by omega
    rw [this]
    grind
  have hm : q * tlS p d q = d - hdS p d q * hdS p d q := by
    unfold tlS
    exact Int.mul_tdiv_cancel' hdv
  refine ⟨hm, ?_, ?_, hs⟩
  · intro h
    simp only at h
    show a0 - q < hdS p d q ∧ hdS p d q ≤ a0
    have e : flS p d q = (p + a0) / q := by unfold flS; rw [if_pos h, R.isq]
    have e1 := Int.mul_ediv_add_emod (p + a0) q
    have e2 := Int.emod_nonneg (p + a0) (show q ≠ 0 by omega)
    have e3 := Int.emod_lt_of_pos (p + a0) h
    rw [hs, e, Int.mul_comm]
    omega
  · intro h
    simp only at h
    show a0 < hdS p d q ∧ hdS p d q ≤ a0 - q
    have e : flS p d q = (p + a0) / q - 1 := by unfold flS; rw [if_neg (by omega), R.isq]
    have e1 := Int.mul_ediv_add_emod (p + a0) q
    have e2 := Int.emod_nonneg (p + a0) (show q ≠ 0 by omega)
    have e3 := Int.emod_lt_of_neg (p + a0) h
    have e4 : (p + a0) / q * q = q * ((p + a0) / q) := Int.mul_comm _ _
    rw [hs, e, Int.sub_mul]
    omega
theorem Step.ne {d a0 : Int} (R : RootD d a0) {x y : Int × Int} (h : Step d a0 x y) : y.2 ≠ 0 ∧ y.2 ∣ d - y.1 * y.1 := by
  have hm := h.mul
  refine ⟨fun e => ?_, ⟨x.2, by rw [← hm, Int.mul_comm]⟩⟩
  rw [e, Int.mul_zero] at hm
  rcases sq_ne R y.1 with g | g <;> omega
/-- Behind a positive denominator and a head among the roots lies a reduced surd. -/
theorem good_red {d a0 : Int} (R : RootD d a0) {x y z : Int × Int} (h : Step d a0 x y) (k : Step d a0 y z) (hx : 0 < x.2) (hy : -a0 ≤ y.1 ∧ y.1 ≤ a0) : RedX d a0 z := by
  have l := R.low
  have u := R.up
  have o := R.one
  obtain ⟨p1, p2⟩ := h.pos hx
  have m1 := h.mul
  have hyy : y.1 * y.1 < d := by rcases sq_ne R y.1 with g | g <;> omega
  have hq : 0 < y.2 := by
    rcases Int.lt_or_le 0 y.2 with g | g
    · exact g
    · have := Int.mul_nonneg (show 0 ≤ x.2 by omega) (show 0 ≤ -y.2 by omega)
      rw [Int.mul_neg] at this
      omega
  have up : ∀ {X P Q : Int}, X * Q = d - P * P → a0 - X < P → 0 < Q → P ≤ a0 → Q ≤ a0 + P := by
    intro X P Q hm h1 h2 h3
    rcases Int.lt_or_le (a0 + P) Q with g | g
    · exfalso
      have a1 := Int.mul_le_mul_of_nonneg_right (show a0 - P + 1 ≤ X by omega) (show 0 ≤ Q by omega)
      have a2 := Int.mul_le_mul_of_nonneg_left (show a0 + P + 1 ≤ Q by omega) (show 0 ≤ a0 - P + 1 by omega)
      have a3 : (a0 - P + 1) * (a0 + P + 1) = (a0 + 1) * (a0 + 1) - P * P := by grind
      omega
    · exact g
  have q1 := up m1 p1 hq p2
  obtain ⟨r1, r2⟩ := k.pos hq
  have m2 := k.mul
  have hsum := k.sum
  have ha : 1 ≤ tmX d y := by
    rcases Int.lt_or_le 0 (tmX d y) with g | g
    · omega
    · have := Int.mul_nonneg (show 0 ≤ -tmX d y by omega) (show 0 ≤ y.2 by omega)
      rw [Int.neg_mul] at this
      omega
  have ha2 := Int.mul_le_mul_of_nonneg_right ha (show 0 ≤ y.2 by omega)
  have z1 : 1 ≤ z.1 := by omega
  have hzz : z.1 * z.1 < d := by rcases sq_ne R z.1 with g | g <;> omega
  have hz : 0 < z.2 := by
    rcases Int.lt_or_le 0 z.2 with g | g
    · exact g
    · have := Int.mul_nonneg (show 0 ≤ y.2 by omega) (show 0 ≤ -z.2 by omega)
      rw [Int.mul_neg] at this
      omega
  refine ⟨⟨z1, r2⟩, ⟨by omega, up m2 r1 hz r2, ?_⟩, (Step.ne R k).2⟩
  rcases Int.lt_or_le a0 (z.1 + z.2) with g | g
  · exact g
  · exfalso
    have a1 := Int.mul_le_mul_of_nonneg_left (show z.2 ≤ a0 - z.1 by omega) (show 0 ≤ y.2 by omega)
    have a2 := Int.mul_le_mul_of_nonneg_right (show y.2 ≤ a0 + z.1 by omega) (show 0 ≤ a0 - z.1 by omega)
    have a3 : (a0 + z.1) * (a0 - z.1) = a0 * a0 - z.1 * z.1 := by grind
    omega
theorem orb_valid {d a0 : Int} (R : RootD d a0) {x : Int × Int} (hq : x.2 ≠ 0) (hd : x.2 ∣ d - x.1 * x.1) : ∀ k, (orb d x k).2 ≠ 0 ∧ (orb d x k).2 ∣ d - (orb d x k).1 * (orb d x k).1
  | 0 => ⟨hq, hd⟩
  | k + 1 => (step_of R (orb_valid R hq hd k).1 (orb_valid R hq hd k).2).ne R
theorem orb_shift (d : Int) (x : Int × Int) : ∀ k, orb d (nxt d x) k = orb d x (k + 1)
  | 0 => rfl
  | k + 1 => by show nxt d (orb d (nxt d x) k) = nxt d (orb d x (k + 1)); rw [orb_shift d x k]
theorem orb_add (d : Int) (x : Int × Int) (a : Nat) : ∀ k, orb d (orb d x a) k = orb d x (a + k)
  | 0 => rfl
  | k + 1 => by show nxt d (orb d (orb d x a) k) = nxt d (orb d x (a + k)); rw [orb_add d x a k]
/-- Every surd leads to a reduced one. -/
theorem to_red {d a0 : Int} (R : RootD d a0) : ∀ (n : Nat) (x : Int × Int), x.2.natAbs ≤ n → x.2 ≠ 0 → x.2 ∣ d - x.1 * x.1 → ∃ k, RedX d a0 (orb d x k)
  | 0, x, h, hq, _ => by omega
  | n + 1, x, h, hq, hd => by
    have o := R.one
    have l := R.low
    have s1 := step_of R hq hd
    obtain ⟨v1, v2⟩ := s1.ne R
    have s2 := step_of R v1 v2
    obtain ⟨w1, w2⟩ := s2.ne R
    have s3 := step_of R w1 w2
    have m1 := s1.mul
    have m2 := s2.mul
    have rest : (nxt d x).2.natAbs < x.2.natAbs → ∃ k, RedX d a0 (orb d x k) := fun hlt => by
      obtain ⟨k, hk⟩ := to_red R n (nxt d x) (by omega) v1 v2
      exact ⟨k + 1, by rw [← orb_shift]; exact hk⟩
    rcases Int.lt_or_le 0 x.2 with hx | hx
    · obtain ⟨p1, p2⟩ := s1.pos hx
      rcases Int.lt_or_le (nxt d x).1 (-a0) with g | g
      · apply rest
        have a1 := sq_mono (show 0 ≤ -(nxt d x).1 by omega) (show -(nxt d x).1 ≤ x.2 - a0 - 1 by omega)
        have a2 : -(nxt d x).1 * -(nxt d x).1 = (nxt d x).1 * (nxt d x).1 := by grind
        have a3 : (x.2 - a0 - 1) * (x.2 - a0 - 1) ≤ (x.2 - 1) * x.2 := Int.mul_le_mul (by omega) (by omega) (by omega) (by omega)
        have hneg : (nxt d x).2 < 0 := by
          rcases Int.lt_or_le (nxt d x).2 0 with e | e
          · exact e
          · have := Int.mul_nonneg (show 0 ≤ x.2 by omega) e
            rcases sq_ne R (nxt d x).1 with f | f <;> omega
        rcases Int.lt_or_le (-(nxt d x).2) x.2 with e | e
        · omega
        · exfalso
          have b1 := Int.mul_le_mul_of_nonneg_left e (show 0 ≤ x.2 by omega)
          rw [Int.mul_neg] at b1
          have b2 : (x.2 - 1) * x.2 = x.2 * x.2 - x.2 := by grind
          have d0 := R.d2
          omega
      · exact ⟨2, good_red R s1 s2 hx ⟨g, p2⟩⟩
    · obtain ⟨p1, p2⟩ := s1.neg (by omega)
      have hpos : 0 < (nxt d x).2 := by
        rcases Int.lt_or_le 0 (nxt d x).2 with e | e
        · exact e
        · have := Int.mul_nonneg (show 0 ≤ -x.2 by omega) (show 0 ≤ -(nxt d x).2 by omega)
          have e2 : -x.2 * -(nxt d x).2 = x.2 * (nxt d x).2 := by grind
          rcases sq_ne R (nxt d x).1 with f | f <;> omega
      obtain ⟨r1, r2⟩ := s2.pos hpos
      rcases Int.lt_or_le (nxt d (nxt d x)).1 (-a0) with g | g
      · apply rest
        have hq' : (nxt d x).2 ≤ a0 + (nxt d x).1 := by
          rcases Int.lt_or_le (a0 + (nxt d x).1) (nxt d x).2 with e | e
          · exfalso
            have b1 := Int.mul_le_mul_of_nonneg_left (show a0 + (nxt d x).1 ≤ (nxt d x).2 by omega) (show 0 ≤ -x.2 by omega)
            have b2 := Int.mul_le_mul_of_nonneg_right (show (nxt d x).1 - a0 ≤ -x.2 by omega) (show 0 ≤ a0 + (nxt d x).1 by omega)
            have b3 : ((nxt d x).1 - a0) * (a0 + (nxt d x).1) = (nxt d x).1 * (nxt d x).1 - a0 * a0 := by grind
            rw [Int.neg_mul, Int.neg_mul] at b1
            rw [Int.neg_mul] at b2
            omega
          · exact e
        have hs := s2.sum
        have ha : 1 ≤ tmX d (nxt d x) := by
          rcases Int.lt_or_le 0 (tmX d (nxt d x)) with e | e
          · omega
          · have := Int.mul_nonneg (show 0 ≤ -tmX d (nxt d x) by omega) (show 0 ≤ (nxt d x).2 by omega)
            rw [Int.neg_mul] at this
            omega
        have ha2 := Int.mul_le_mul_of_nonneg_right ha (show 0 ≤ (nxt d x).2 by omega)
        omega
      · exact ⟨3, good_red R s2 s3 hpos ⟨g, r2⟩⟩
theorem red_on {d a0 : Int} (R : RootD d a0) {x : Int × Int} (h : RedX d a0 x) : ∀ k, RedX d a0 (orb d x k)
  | 0 => h
  | k + 1 => (red_step R (red_on R h k)).1
theorem okX_root {d : Int} {x : Int × Int} (h : okX d x = true) : ∃ a0, RootD d a0 ∧ x.2 ≠ 0 ∧ x.2 ∣ d - x.1 * x.1 := by
  obtain ⟨h1, h2, _, _, _, _, h7, h8, h9⟩ := okS_bd h
  exact ⟨_, rootD h1 h2 h8, h7, Int.dvd_of_tmod_eq_zero h9⟩
/-- The surds of a period are reduced. -/
theorem cycle_red {d a0 : Int} (R : RootD d a0) {x : Int × Int} {j m : Nat} (h0 : okX d x = true) (h : wk d x = some (j, m)) : ∀ t, j ≤ t → RedX d a0 (orb d x t) := by
  obtain ⟨h1, h2, h3, _, _⟩ := wk_some h h0
  obtain ⟨_, _, hq, hd⟩ := okX_root h0
  obtain ⟨k, hk⟩ := to_red R _ x (Nat.le_refl _) hq hd
  have hper : ∀ t, orb d x (m + t) = orb d x (j + t) := fun t => by rw [← orb_add, ← orb_add, h3]
  have hall : ∀ n t, j ≤ t → orb d x (t + (m - j) * n) = orb d x t := by
    intro n
    induction n with
    | zero => intro t _; rfl
    | succ n ih =>
      intro t ht
      rw [show t + (m - j) * (n + 1) = m + (t - j + (m - j) * n) by rw [Nat.mul_succ]; omega, hper, show j + (t - j + (m - j) * n) = t + (m - j) * n by omega]
      exact ih t ht
  intro t ht
  rw [← hall k t ht]
  have hge : k ≤ t + (m - j) * k := by
    have := Nat.mul_le_mul_right k (show 1 ≤ m - j by omega)
    omega
  obtain ⟨e, he⟩ : ∃ e, t + (m - j) * k = k + e := ⟨t + (m - j) * k - k, by omega⟩
  rw [he, ← orb_add]
  exact red_on R hk e
/-- The walk of a reduced surd. -/
theorem red_pure {d a0 : Int} (R : RootD d a0) {x : Int × Int} {j m : Nat} (hr : RedX d a0 x) (h : wk d x = some (j, m)) : j = 0 := by
  obtain ⟨h1, h2, h3, _, h5⟩ := wk_some h (red_ok R hr)
  rcases Nat.eq_zero_or_pos j with g | g
  · exact g
  · exfalso
    obtain ⟨a, rfl⟩ : ∃ a, j = a + 1 := ⟨j - 1, by omega⟩
    obtain ⟨b, rfl⟩ : ∃ b, m = b + 1 := ⟨m - 1, by omega⟩
    exact h5 a b (by omega) (by omega) (red_inj R (red_on R hr a) (red_on R hr b) h3)
theorem dec_and {a b : Prop} [Decidable a] [Decidable b] : (decide a && decide b) = decide (a ∧ b) := by simp
/-- The test for reduced surds. -/
theorem redB_iff {d a0 p q : Int} (R : RootD d a0) (hq : q ≠ 0) (hd : q ∣ d - p * p) : redB p d q = true ↔ RedX d a0 (p, q) := by
  have e1 : (d * 1 * 1).toNat = d.toNat := by rw [Int.mul_one, Int.mul_one]
  have o := R.one
  unfold redB lessB lessV
  rw [e1, R.isq]
  rcases Int.lt_or_le 0 q with h | h
  · rw [if_pos h, if_neg (show ¬ (-q > 0) by omega), if_neg (show ¬ (-q > 0) by omega)]
    simp only [Bool.and_eq_true, Bool.not_eq_true', Bool.and_eq_false_iff, decide_eq_false_iff_not, decide_eq_true_eq, Bool.not_not]
    constructor
    · rintro ⟨⟨a1, a2⟩, a3, a4⟩
      exact ⟨⟨by simp only; omega, by simp only; omega⟩, ⟨by simp only; omega, by simp only; omega, by simp only; omega⟩, hd⟩
    · rintro ⟨⟨b1, b2⟩, ⟨b3, b4, b5⟩, _⟩
      simp only at b1 b2 b3 b4 b5
      refine ⟨⟨?_, ?_⟩, ?_, ?_⟩ <;> omega
  · rw [if_neg (show ¬ (q > 0) by omega), if_pos (show -q > 0 by omega), if_pos (show -q > 0 by omega)]
    simp only [Bool.and_eq_true, Bool.not_eq_true', Bool.and_eq_false_iff, decide_eq_false_iff_not, decide_eq_true_eq, Bool.not_not]
    constructor
    · rintro ⟨⟨a1, a2⟩, a3⟩
      exfalso; omega
    · rintro ⟨⟨b1, b2⟩, ⟨b3, b4, b5⟩, _⟩
      simp only at b1 b2 b3 b4 b5
      exfalso; omega
end Go.Proofs.YtlmmpeeacjbobaaGreatDoor
