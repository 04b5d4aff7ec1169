/-
  Pell equations: every solution is a power of the least one.
-/
import Derived.Test.YtibbokllongomaaDoorPairs
namespace Go.Proofs.YtibbokllongomaaDoor
open Go.RowKit

theorem dsc_ge {d a0 P Q a u v s : Int} (h1 : a0 * a0 < d) (h0 : 1 ≤ a0) (hP : P ≤ a0) (hQ : 1 ≤ Q) (hQ2 : Q ≤ a0 + P) (ha : a * Q - P ≤ a0) (hu : 1 ≤ u) (hv : 1 ≤ v) (hs : s = 1 ∨ s = -1)
    (hN : (Q * u - P * v) * (Q * u - P * v) - d * v * v = s * Q) : a * v ≤ u := by
  rcases Int.lt_or_le u (a * v) with h | h
  · exfalso
    obtain ⟨t, ht⟩ : ∃ t, t = Q * u - P * v := ⟨_, rfl⟩
    rw [← ht] at hN
    have e1 : Q * u ≤ Q * (a * v - 1) := Int.mul_le_mul_of_nonneg_left (by omega) (by omega)
    have e2 : (a * Q) * v ≤ (a0 + P) * v := Int.mul_le_mul_of_nonneg_right (by omega) (by omega)
    have e3 : Q * (a * v - 1) = (a * Q) * v - Q := by grind
    have e4 : (a0 + P) * v = a0 * v + P * v := by grind
    have e5 : P * v ≤ a0 * v := Int.mul_le_mul_of_nonneg_right hP (by omega)
    have e6 : Q * 1 ≤ Q * u := Int.mul_le_mul_of_nonneg_left hu (by omega)
    have t1 : t ≤ a0 * v - Q := by omega
    have t2 : -(a0 * v - Q) ≤ t := by omega
    have m1 := Int.mul_nonneg (show 0 ≤ (a0 * v - Q) - t by omega) (show 0 ≤ (a0 * v - Q) + t by omega)
    have m2 : ((a0 * v - Q) - t) * ((a0 * v - Q) + t) = (a0 * v - Q) * (a0 * v - Q) - t * t := by grind
    have m3 : (a0 * v - Q) * (a0 * v - Q) = (a0 * a0) * (v * v) - 2 * (a0 * v) * Q + Q * Q := by grind
    have m4 : (a0 * a0 + 1) * (v * v) ≤ d * (v * v) := Int.mul_le_mul_of_nonneg_right (by omega) (Int.mul_nonneg (by omega) (by omega))
    have m5 : (a0 * a0 + 1) * (v * v) = (a0 * a0) * (v * v) + v * v := by grind
    have m6 : d * (v * v) = d * v * v := by grind
    have m7 : 1 ≤ v * v := by have := sq_mono (show (0:Int) ≤ 1 by omega) hv; omega
    have m8 : -Q ≤ s * Q := by rcases hs with rfl | rfl <;> omega
    have m9 : 0 ≤ Q * (2 * (a0 * v) - Q - 1) := by
      refine Int.mul_nonneg (by omega) ?_
      rcases Int.lt_or_le 1 v with g | g
      · have := Int.mul_le_mul_of_nonneg_left (show (2:Int) ≤ v by omega) (show 0 ≤ a0 by omega)
        omega
      · obtain rfl : v = 1 := by omega
        have := Int.mul_le_mul_of_nonneg_right (show (2:Int) ≤ a by omega) (show 0 ≤ Q by omega)
        omega
    have m10 : Q * (2 * (a0 * v) - Q - 1) = 2 * (a0 * v) * Q - Q * Q - Q := by grind
    omega
  · exact h
/-- The norm among two convergents. -/
theorem cv_form {d a0 : Int} (R : RootD d a0) (k : Nat) (u v : Int) :
    (orb d (0, 1) k).2 * sgX k * (((cvX d k).1.1 * u + (cvX d k).2.1 * v) * ((cvX d k).1.1 * u + (cvX d k).2.1 * v) - d * ((cvX d k).1.2 * u + (cvX d k).2.2 * v) * ((cvX d k).1.2 * u + (cvX d k).2.2 * v)) =
      ((orb d (0, 1) k).2 * u - (orb d (0, 1) k).1 * v) * ((orb d (0, 1) k).2 * u - (orb d (0, 1) k).1 * v) - d * v * v := by
  obtain ⟨i1, i2, i3⟩ := cv_inv R k
  obtain ⟨hQ, _⟩ := orb_step R k
  have hA := cv_norm R k
  have hs : sgX k * sgX k = 1 := by
    have := sg_val k
    have h2 : k % 2 = 0 ∨ k % 2 = 1 := by omega
    rcases h2 with h | h <;> rw [h] at this <;> simp at this <;> rw [this] <;> rfl
  generalize (orb d (0, 1) k).2 = Q at *
  generalize (orb d (0, 1) k).1 = P at *
  generalize (cvX d k).1.1 = p at *
  generalize (cvX d k).1.2 = q at *
  generalize (cvX d k).2.1 = pp at *
  generalize (cvX d k).2.2 = qq at *
  generalize sgX k = sg at *
  have hB : p * pp - d * q * qq = -P * sg := by
    have : d * q * qq = qq * (p * P + pp * Q) := by rw [← i1]; grind
    rw [this, ← i3]
    have : pp * p - pp * qq * Q = pp * q * P := by grind
    grind
  have hC : Q * (pp * pp - d * qq * qq) = sg * (P * P - d) := by
    have : Q * (Q * (pp * pp - d * qq * qq)) = Q * (sg * (P * P - d)) := by
      have e1 : pp * Q = d * q - p * P := by omega
      have e2 : qq * Q = p - q * P := by omega
      have : Q * (Q * (pp * pp - d * qq * qq)) = (pp * Q) * (pp * Q) - d * (qq * Q) * (qq * Q) := by grind
      rw [this, e1, e2]
      have : (d * q - p * P) * (d * q - p * P) - d * (p - q * P) * (p - q * P) = (p * p - d * q * q) * (P * P - d) := by grind
      rw [this, hA]
      grind
    exact Int.eq_of_mul_eq_mul_left hQ this
  have e : (p * u + pp * v) * (p * u + pp * v) - d * (q * u + qq * v) * (q * u + qq * v) = (p * p - d * q * q) * (u * u) + 2 * (p * pp - d * q * qq) * (u * v) + (pp * pp - d * qq * qq) * (v * v) := by grind
  rw [e, hA, hB]
  have e2 : Q * sg * (Q * sg * (u * u) + 2 * (-P * sg) * (u * v) + (pp * pp - d * qq * qq) * (v * v)) = Q * Q * (sg * sg) * (u * u) - 2 * P * Q * (sg * sg) * (u * v) + sg * (Q * (pp * pp - d * qq * qq)) * (v * v) := by grind
  rw [e2, hC, hs]
  have e3 : sg * (sg * (P * P - d)) = P * P - d := by rw [← Int.mul_assoc, hs]; omega
  rw [e3]
  grind
theorem sg_sq (k : Nat) : sgX k = 1 ∨ sgX k = -1 := by
  have := sg_val k
  have h2 : k % 2 = 0 ∨ k % 2 = 1 := by omega
  rcases h2 with h | h <;> rw [h] at this <;> simp at this <;> omega
theorem dsc {d a0 : Int} (R : RootD d a0) {x y s : Int} (hs : s = 1 ∨ s = -1) (hN : x * x - d * y * y = s) : ∀ (n k : Nat) (u v : Int), 1 ≤ u → 0 ≤ v → u + v ≤ n →
    x = (cvX d (k + 1)).1.1 * u + (cvX d (k + 1)).2.1 * v → y = (cvX d (k + 1)).1.2 * u + (cvX d (k + 1)).2.2 * v →
    ∃ j, 1 ≤ j ∧ x = (cvX d j).1.1 ∧ y = (cvX d j).1.2 ∧ (orb d (0, 1) j).2 = 1 ∧ sgX j = s
  | 0, k, u, v, hu, hv, hn, _, _ => by omega
  | n + 1, k, u, v, hu, hv, hn, hx, hy => by
    have hf := cv_form R (k + 1) u v
    rw [← hx, ← hy, hN] at hf
    obtain ⟨⟨r1, r2⟩, ⟨r3, r4, r5⟩, r6⟩ := orb_red R k
    obtain ⟨_, t1, t2, t3, t4, t5⟩ := red_step R (orb_red R k)
    have hsg := sg_sq (k + 1)
    rcases Int.lt_or_le 0 v with h | h
    · have hle := dsc_ge (a := trX d (k + 1)) (s := sgX (k + 1) * s) R.low R.one r2 r3 r4 (by
        obtain ⟨⟨⟨_, q2⟩, _⟩, _⟩ := red_step R (orb_red R k)
        rw [t5] at q2
        exact q2) hu (show 1 ≤ v by omega) (by rcases hsg with e | e <;> rcases hs with e' | e' <;> rw [e, e'] <;> simp) (by rw [← hf]; grind)
      have ht : trX d (k + 1) = tmX d (orb d (0, 1) (k + 1)) := rfl
      have hm := Int.mul_le_mul_of_nonneg_right (show 1 ≤ trX d (k + 1) by rw [ht]; exact t1) hv
      refine dsc R hs hN n (k + 1) v (u - trX d (k + 1) * v) (by omega) (by omega) (by omega) ?_ ?_
      · show x = (trX d (k + 1) * (cvX d (k + 1)).1.1 + (cvX d (k + 1)).2.1) * v + (cvX d (k + 1)).1.1 * (u - trX d (k + 1) * v)
        rw [hx]; grind
      · show y = (trX d (k + 1) * (cvX d (k + 1)).1.2 + (cvX d (k + 1)).2.2) * v + (cvX d (k + 1)).1.2 * (u - trX d (k + 1) * v)
        rw [hy]; grind
    · obtain rfl : v = 0 := by omega
      refine ⟨k + 1, by omega, ?_⟩
      generalize (orb d (0, 1) (k + 1)).2 = Q at *
      have hf2 : Q * (sgX (k + 1) * s) = Q * (Q * (u * u)) := by grind
      have hf3 := Int.eq_of_mul_eq_mul_left (show Q ≠ 0 by omega) hf2
      have hq1 : Q * 1 ≤ Q * (u * u) := Int.mul_le_mul_of_nonneg_left (by have := sq_mono (show (0:Int) ≤ 1 by omega) hu; omega) (by omega)
      have hu1 : u ≤ u * u := by have := Int.mul_le_mul_of_nonneg_left hu (show 0 ≤ u by omega); omega
      have hq2 : 1 * (u * u) ≤ Q * (u * u) := Int.mul_le_mul_of_nonneg_right (by omega) (by omega)
      have hss : sgX (k + 1) * s ≤ 1 := by rcases hsg with e | e <;> rcases hs with e' | e' <;> rw [e, e'] <;> decide
      obtain rfl : u = 1 := by omega
      obtain rfl : Q = 1 := by omega
      refine ⟨by omega, by omega, rfl, ?_⟩
      rcases hsg with e | e <;> rcases hs with e' | e' <;> rw [e, e'] at hf3 <;> omega
/-- Every unit is a convergent, at a place where the root comes again. -/
theorem unit_cv {d a0 : Int} (R : RootD d a0) {x y s : Int} (hx : 1 ≤ x) (hy : 1 ≤ y) (hs : s = 1 ∨ s = -1) (hN : x * x - d * y * y = s) : ∃ j, 1 ≤ j ∧ x = (cvX d j).1.1 ∧ y = (cvX d j).1.2 ∧ (orb d (0, 1) j).2 = 1 ∧ sgX j = s := by
  have hle : a0 * y ≤ x := by
    rcases Int.lt_or_le x (a0 * y) with h | h
    · exfalso
      have m1 := sq_mono (show 0 ≤ x by omega) (show x ≤ a0 * y - 1 by omega)
      have m2 : (a0 * y - 1) * (a0 * y - 1) = (a0 * a0) * (y * y) - 2 * (a0 * y) + 1 := by grind
      have m4 : (a0 * a0 + 1) * (y * y) ≤ d * (y * y) := Int.mul_le_mul_of_nonneg_right (by have := R.low; omega) (Int.mul_nonneg (by omega) (by omega))
      have m5 : (a0 * a0 + 1) * (y * y) = (a0 * a0) * (y * y) + y * y := by grind
      have m6 : d * (y * y) = d * y * y := by grind
      have m7 : 1 ≤ y * y := by have := sq_mono (show (0:Int) ≤ 1 by omega) hy; omega
      rcases hs with rfl | rfl <;> omega
    · exact h
  obtain ⟨n, hn⟩ := Int.eq_ofNat_of_zero_le (show 0 ≤ y + (x - a0 * y) by omega)
  have htr : trX d 0 = a0 := (root_zero R).2.1
  refine dsc R hs hN n 0 y (x - a0 * y) hy (by omega) (by omega) ?_ ?_
  · show x = (trX d 0 * 1 + 0) * y + 1 * (x - a0 * y)
    rw [htr]; grind
  · show y = (trX d 0 * 0 + 1) * y + 0 * (x - a0 * y)
    grind
/-! The period of a root, and the powers of its unit. -/
theorem orb_per {d a0 : Int} (R : RootD d a0) {l : Nat} (hl : orb d (0, 1) l = (a0, 1)) : ∀ k, orb d (0, 1) (l + (k + 1)) = orb d (0, 1) (k + 1)
  | 0 => by
    show nxt d (orb d (0, 1) l) = nxt d (0, 1)
    rw [hl, one_next R, (root_zero R).1]
  | k + 1 => by
    show nxt d (orb d (0, 1) (l + (k + 1))) = nxt d (orb d (0, 1) (k + 1))
    rw [orb_per R hl k]
theorem red_q1 {d a0 : Int} {x : Int × Int} (h : RedX d a0 x) (h1 : x.2 = 1) : x = (a0, 1) := by
  obtain ⟨⟨g1, g2⟩, ⟨g3, g4, g5⟩, g6⟩ := h
  obtain ⟨p, q⟩ := x
  simp only at h1 g1 g2 g3 g4 g5
  subst h1
  obtain rfl : p = a0 := by omega
  rfl
theorem tr_last {d a0 : Int} (R : RootD d a0) {l : Nat} (hl : orb d (0, 1) l = (a0, 1)) : trX d l = 2 * a0 := by
  unfold trX
  rw [hl]
  have := R.one
  exact (nxt_eq (p := a0) (q := 1) (a := 2 * a0) (p' := a0) (q' := d - a0 * a0) R (by omega) (by rw [Int.ediv_one]; omega) (by omega) (by omega)).2
theorem cv_per {d a0 : Int} (R : RootD d a0) {l : Nat} (hl : orb d (0, 1) l = (a0, 1)) : ∀ k,
    (cvX d (l + k)).1 = (mxP d (cvX d l).1.1 (cvX d l).1.2 (cvX d k).1.1 (cvX d k).1.2, myP (cvX d l).1.1 (cvX d l).1.2 (cvX d k).1.1 (cvX d k).1.2) ∧
    (cvX d (l + (k + 1))).1 = (mxP d (cvX d l).1.1 (cvX d l).1.2 (cvX d (k + 1)).1.1 (cvX d (k + 1)).1.2, myP (cvX d l).1.1 (cvX d l).1.2 (cvX d (k + 1)).1.1 (cvX d (k + 1)).1.2)
  | 0 => by
    obtain ⟨i1, i2, _⟩ := cv_inv R l
    rw [hl] at i1 i2
    simp only at i1 i2
    have ht : trX d 0 = a0 := (root_zero R).2.1
    constructor
    · show (cvX d l).1 = _
      refine Prod.ext ?_ ?_
      · show (cvX d l).1.1 = (cvX d l).1.1 * 1 + d * (cvX d l).1.2 * 0; grind
      · show (cvX d l).1.2 = (cvX d l).1.1 * 0 + (cvX d l).1.2 * 1; grind
    · refine Prod.ext ?_ ?_
      · show trX d l * (cvX d l).1.1 + (cvX d l).2.1 = (cvX d l).1.1 * (trX d 0 * 1 + 0) + d * (cvX d l).1.2 * (trX d 0 * 0 + 1)
        rw [tr_last R hl, ht]; grind
      · show trX d l * (cvX d l).1.2 + (cvX d l).2.2 = (cvX d l).1.1 * (trX d 0 * 0 + 1) + (cvX d l).1.2 * (trX d 0 * 1 + 0)
        rw [tr_last R hl, ht]; grind
  | k + 1 => by
    obtain ⟨j1, j2⟩ := cv_per R hl k
    refine ⟨j2, ?_⟩
    have ht : trX d (l + (k + 1)) = trX d (k + 1) := by unfold trX; rw [orb_per R hl k]
    have e : (cvX d (l + (k + 1))).2 = (cvX d (l + k)).1 := rfl
    refine Prod.ext ?_ ?_
    · show trX d (l + (k + 1)) * (cvX d (l + (k + 1))).1.1 + (cvX d (l + (k + 1))).2.1 = (cvX d l).1.1 * (trX d (k + 1) * (cvX d (k + 1)).1.1 + (cvX d k).1.1) + d * (cvX d l).1.2 * (trX d (k + 1) * (cvX d (k + 1)).1.2 + (cvX d k).1.2)
      rw [ht, e, j1, j2]
      simp only [mxP]
      grind
    · show trX d (l + (k + 1)) * (cvX d (l + (k + 1))).1.2 + (cvX d (l + (k + 1))).2.2 = (cvX d l).1.1 * (trX d (k + 1) * (cvX d (k + 1)).1.2 + (cvX d k).1.2) + (cvX d l).1.2 * (trX d (k + 1) * (cvX d (k + 1)).1.1 + (cvX d k).1.1)
      rw [ht, e, j1, j2]
      simp only [myP]
      grind
theorem orb_mul {d a0 : Int} (R : RootD d a0) {l : Nat} (h1 : 1 ≤ l) (hl : orb d (0, 1) l = (a0, 1)) : ∀ n, orb d (0, 1) (l * (n + 1)) = (a0, 1)
  | 0 => by rw [Nat.zero_add, Nat.mul_one]; exact hl
  | n + 1 => by
    have ih := orb_mul R h1 hl n
    obtain ⟨m, hm⟩ : ∃ m, l * (n + 1) = m + 1 := ⟨l * (n + 1) - 1, by have := Nat.mul_pos h1 (show 0 < n + 1 by omega); omega⟩
    rw [Nat.mul_succ, Nat.add_comm, hm, orb_per R hl m, ← hm]
    exact ih
theorem unit_mul {d a0 : Int} (R : RootD d a0) {l : Nat} (h1 : 1 ≤ l) (hl : orb d (0, 1) l = (a0, 1)) (hmin : ∀ k, 1 ≤ k → k < l → orb d (0, 1) k ≠ (a0, 1)) : ∀ j, 1 ≤ j → orb d (0, 1) j = (a0, 1) → ∃ n, j = l * (n + 1) := by
  intro j
  induction j using Nat.strongRecOn with
  | ind j ih =>
    intro hj he
    rcases Nat.lt_or_ge j l with g | g
    · exact absurd he (hmin j hj g)
    · rcases Nat.eq_or_lt_of_le g with g | g
      · exact ⟨0, by omega⟩
      · obtain ⟨m, rfl⟩ : ∃ m, j = l + (m + 1) := ⟨j - l - 1, by omega⟩
        rw [orb_per R hl m] at he
        obtain ⟨n, hn⟩ := ih (m + 1) (by omega) (by omega) he
        exact ⟨n + 1, by rw [Nat.mul_succ l (n + 1), ← hn]; omega⟩
/-- What is known of the period of a root up to 10000. -/
theorem per_facts {d : Int} (h : pdM d = 0) : ∃ a0, RootD d a0 ∧ 1 ≤ perN d ∧ orb d (0, 1) (perN d) = (a0, 1) ∧ ∀ k, 1 ≤ k → k < perN d → orb d (0, 1) k ≠ (a0, 1) := by
  obtain ⟨h1, h2, h3⟩ := pd_zero h
  have R := rootD h1 (by omega) h3
  obtain ⟨hw, _⟩ := per_spec h
  obtain ⟨_, g2, g3, g4⟩ := root_walk R hw
  obtain ⟨_, _, _, _, hinj⟩ := wk_some hw (root_ok0 R)
  refine ⟨_, R, by omega, g4, fun k hk hkl e => ?_⟩
  exact hinj k (perN d + 1 - 1) (by omega) (by omega) (e.trans g4.symm)
/-- The place of the least solution with 1. -/
def lpN (d : Int) : Nat := if perN d % 2 = 1 then perN d * 2 else perN d
theorem sg_two (n : Nat) : sgX n = 1 ↔ n % 2 = 0 := by rw [sg_val]; omega
theorem lp_facts {d : Int} (h : pdM d = 0) : ∃ a0, RootD d a0 ∧ 1 ≤ lpN d ∧ lpN d % 2 = 0 ∧ orb d (0, 1) (lpN d) = (a0, 1) ∧ lsX d (perN d) = (cvX d (lpN d)).1.1 ∧ lsY d (perN d) = (cvX d (lpN d)).1.2 ∧
    (∀ x y : Int, 1 ≤ x → 1 ≤ y → x * x - d * y * y = 1 → ∃ n, x = (cvX d (lpN d * (n + 1))).1.1 ∧ y = (cvX d (lpN d * (n + 1))).1.2) := by
  obtain ⟨a0, R, h1, hl, hmin⟩ := per_facts h
  have hsol : ∀ x y : Int, 1 ≤ x → 1 ≤ y → x * x - d * y * y = 1 → ∃ n, x = (cvX d (lpN d * (n + 1))).1.1 ∧ y = (cvX d (lpN d * (n + 1))).1.2 := by
    intro x y hx hy hN
    obtain ⟨j, j1, j2, j3, j4, j5⟩ := unit_cv R hx hy (.inl rfl) hN
    obtain ⟨j', rfl⟩ : ∃ k, j = k + 1 := ⟨j - 1, by omega⟩
    obtain ⟨n, hn⟩ := unit_mul R h1 hl hmin _ j1 (red_q1 (orb_red R j') j4)
    rw [hn, sg_two] at j5
    by_cases ho : perN d % 2 = 1
    · have hn2 : (n + 1) % 2 = 0 := by
        rw [Nat.mul_mod, ho] at j5
        omega
      refine ⟨(n + 1) / 2 - 1, ?_⟩
      have e : lpN d * ((n + 1) / 2 - 1 + 1) = perN d * (n + 1) := by
        unfold lpN
        rw [if_pos ho, Nat.mul_assoc]
        congr 1
        omega
      rw [e, ← hn]
      exact ⟨j2, j3⟩
    · refine ⟨n, ?_⟩
      unfold lpN
      rw [if_neg ho, ← hn]
      exact ⟨j2, j3⟩
  by_cases ho : perN d % 2 = 1
  · have e : lpN d = perN d * 2 := by unfold lpN; rw [if_pos ho]
    have hc := (cv_per R hl (perN d)).1
    have e2 : perN d * 2 = perN d + perN d := by omega
    rw [← e2] at hc
    refine ⟨a0, R, by omega, by omega, ?_, ?_, ?_, hsol⟩
    · rw [e]; exact orb_mul R h1 hl 1
    · unfold lsX; rw [if_pos ho, e, hc]
    · unfold lsY; rw [if_pos ho, e, hc]
  · have e : lpN d = perN d := by unfold lpN; rw [if_neg ho]
    refine ⟨a0, R, by omega, by omega, by rw [e]; exact hl, ?_, ?_, hsol⟩
    · unfold lsX; rw [if_neg ho, e]
    · unfold lsY; rw [if_neg ho, e]
/-- The solutions in order. -/
theorem pp_cv {d : Int} (h : pdM d = 0) (b : Bool) : ∀ t, (ppS d (lsX d (perN d)) (lsY d (perN d)) b t).1 = (cvX d (lpN d * (t + 1))).1 := by
  obtain ⟨a0, R, h1, h2, h3, h4, h5, _⟩ := lp_facts h
  intro t
  induction t with
  | zero =>
    rw [Nat.zero_add, Nat.mul_one]
    show (lsX d (perN d), lsY d (perN d)) = _
    rw [h4, h5]
  | succ t ih =>
    have hc := (cv_per R h3 (lpN d * (t + 1))).1
    rw [Nat.mul_succ (lpN d) (t + 1), Nat.add_comm (lpN d * (t + 1)) (lpN d), hc]
    show (mxP d _ _ _ _, myP _ _ _ _) = _
    rw [ih, h4, h5]
    refine Prod.ext ?_ ?_ <;> simp only [mxP, myP] <;> grind
theorem pp_sol {d : Int} (h : pdM d = 0) (b : Bool) (t : Nat) : nmV d (ppS d (lsX d (perN d)) (lsY d (perN d)) b t).1.1 (ppS d (lsX d (perN d)) (lsY d (perN d)) b t).1.2 = 1 ∧ 1 ≤ (ppS d (lsX d (perN d)) (lsY d (perN d)) b t).1.1 ∧ 1 ≤ (ppS d (lsX d (perN d)) (lsY d (perN d)) b t).1.2 := by
  obtain ⟨a0, R, h1, h2, h3, h4, h5, _⟩ := lp_facts h
  rw [pp_cv h b t]
  have hn := cv_norm R (lpN d * (t + 1))
  have ho := orb_mul R h1 h3 t
  rw [ho, (sg_two _).2 (by rw [Nat.mul_mod, h2]; simp)] at hn
  refine ⟨by unfold nmV; rw [hn]; rfl, (cv_up R _).1, ?_⟩
  have h6 := (cv_le R 1 (lpN d * (t + 1) - 1)).2
  have h7 : 1 ≤ lpN d * (t + 1) := Nat.mul_pos h1 (by omega)
  rw [show 1 + (lpN d * (t + 1) - 1) = lpN d * (t + 1) by omega] at h6
  have h8 : (cvX d 1).1.2 = 1 := by show trX d 0 * 0 + 1 = 1; omega
  omega
theorem pp_up {d : Int} (h : pdM d = 0) (b : Bool) (t : Nat) : (ppS d (lsX d (perN d)) (lsY d (perN d)) b t).1.2 < (ppS d (lsX d (perN d)) (lsY d (perN d)) b (t + 1)).1.2 := by
  obtain ⟨_, a2, a3⟩ := pp_sol h b t
  obtain ⟨_, c2, c3⟩ := pp_sol h b 0
  show _ < myP (ppS d (lsX d (perN d)) (lsY d (perN d)) b t).1.1 (ppS d (lsX d (perN d)) (lsY d (perN d)) b t).1.2 (lsX d (perN d)) (lsY d (perN d))
  have c2 : 1 ≤ lsX d (perN d) := c2
  have c3 : 1 ≤ lsY d (perN d) := c3
  generalize (ppS d (lsX d (perN d)) (lsY d (perN d)) b t).1.1 = x at *
  generalize (ppS d (lsX d (perN d)) (lsY d (perN d)) b t).1.2 = y at *
  unfold myP
  have m1 := Int.mul_le_mul_of_nonneg_left c2 (show 0 ≤ y by omega)
  have m2 := Int.mul_le_mul a2 c3 (by omega) (by omega)
  omega
theorem pp_mono {d : Int} (h : pdM d = 0) (b : Bool) (t : Nat) : ∀ k, (ppS d (lsX d (perN d)) (lsY d (perN d)) b t).1.2 + k ≤ (ppS d (lsX d (perN d)) (lsY d (perN d)) b (t + k)).1.2
  | 0 => by simp
  | k + 1 => by
    have := pp_mono h b t k
    have := pp_up h b (t + k)
    rw [← Nat.add_assoc]
    omega
theorem fit_of {d x y z t : Int} (hd : 1 ≤ d) (hx : 0 ≤ x) (hy : 0 ≤ y) (hz : 0 ≤ z) (ht : 0 ≤ t) (h : mxP d x y z t ≤ 1000000000) : fitP d y t = true := by
  unfold fitP
  rw [big_iff]
  unfold mxP at h
  have m1 := Int.mul_nonneg hx hz
  have m2 : (((d * (y.natAbs : Int)).natAbs * t.natAbs : Nat) : Int) = d * y * t := by
    rw [Int.natCast_mul, Int.natAbs_of_nonneg hy, Int.natAbs_of_nonneg (Int.mul_nonneg (by omega) hy), Int.natAbs_of_nonneg ht]
  omega
/-- Every plain solution is reached, and all ahead of it are plain. -/
theorem pp_hit {d x y : Int} (h : pdM d = 0) (hx : 1 ≤ x) (hy : 1 ≤ y) (hN : nmV d x y = 1) (hok : okP d x y = true) :
    ∃ n, lsB d (perN d) = true ∧ (ppS d (lsX d (perN d)) (lsY d (perN d)) (lsB d (perN d)) n).1 = (x, y) ∧ ∀ t, t ≤ n → (ppS d (lsX d (perN d)) (lsY d (perN d)) (lsB d (perN d)) t).2 = true := by
  obtain ⟨p1, p2, p3⟩ := pd_zero h
  obtain ⟨a0, R, h1, h2, h3, h4, h5, h6⟩ := lp_facts h
  obtain ⟨n, e1, e2⟩ := h6 x y hx hy hN
  rw [e1, e2] at hok
  have hk : ∀ j, j ≤ lpN d * (n + 1) → okP d (cvX d j).1.1 (cvX d j).1.2 = true := fun j hj => cv_ok R j _ hj hok
  have hmul : ∀ t, t ≤ n → lpN d * (t + 1) ≤ lpN d * (n + 1) := fun t ht => Nat.mul_le_mul_left _ (by omega)
  have hz : ∀ j, 0 ≤ (cvX d j).1.1 ∧ 0 ≤ (cvX d j).1.2 := fun j => by obtain ⟨a, b, _⟩ := cv_up R j; exact ⟨by omega, b⟩
  have hB : lsB d (perN d) = true := by
    have hle : lpN d * (0 + 1) ≤ lpN d * (n + 1) := hmul 0 (by omega)
    have k2 := hk (lpN d) (by omega)
    have hpl : perN d ≤ lpN d := by unfold lpN; split <;> omega
    have k1 := hk (perN d) (by omega)
    unfold lsB
    rw [k1, Bool.true_and]
    by_cases ho : perN d % 2 = 1
    · rw [if_pos ho]
      unfold lsX at h4
      unfold lsY at h5
      rw [if_pos ho] at h4 h5
      rw [← h4, ← h5] at k2
      rw [k2, Bool.and_true]
      have hx2 : mxP d (cvX d (perN d)).1.1 (cvX d (perN d)).1.2 (cvX d (perN d)).1.1 (cvX d (perN d)).1.2 ≤ 1000000000 := by
        simp only [okP, inB, Bool.and_eq_true, decide_eq_true_eq] at k2
        omega
      obtain ⟨z1, z2⟩ := hz (perN d)
      exact fit_of (by omega) z1 z2 z1 z2 hx2
    · rw [if_neg ho]
  refine ⟨n, hB, ?_, ?_⟩
  · rw [pp_cv h, e1, e2]
  · intro t
    induction t with
    | zero => intro _; exact hB
    | succ t ih =>
      intro ht
      have i1 := ih (by omega)
      have k2 := hk (lpN d * (t + 1 + 1)) (hmul (t + 1) ht)
      have e3 := pp_cv h (lsB d (perN d)) (t + 1)
      rw [← e3] at k2
      obtain ⟨_, s2, s3⟩ := pp_sol h (lsB d (perN d)) t
      obtain ⟨_, u2, u3⟩ := pp_sol h (lsB d (perN d)) 0
      have u2 : 1 ≤ lsX d (perN d) := u2
      have u3 : 1 ≤ lsY d (perN d) := u3
      show ((ppS d (lsX d (perN d)) (lsY d (perN d)) (lsB d (perN d)) t).2 && (fitP d (ppS d (lsX d (perN d)) (lsY d (perN d)) (lsB d (perN d)) t).1.2 (lsY d (perN d)) && okP d (ppS d (lsX d (perN d)) (lsY d (perN d)) (lsB d (perN d)) (t + 1)).1.1 (ppS d (lsX d (perN d)) (lsY d (perN d)) (lsB d (perN d)) (t + 1)).1.2)) = true
      rw [i1, k2, Bool.true_and, Bool.and_true]
      have hx2 : mxP d (ppS d (lsX d (perN d)) (lsY d (perN d)) (lsB d (perN d)) t).1.1 (ppS d (lsX d (perN d)) (lsY d (perN d)) (lsB d (perN d)) t).1.2 (lsX d (perN d)) (lsY d (perN d)) ≤ 1000000000 := by
        have k3 : okP d (mxP d (ppS d (lsX d (perN d)) (lsY d (perN d)) (lsB d (perN d)) t).1.1 (ppS d (lsX d (perN d)) (lsY d (perN d)) (lsB d (perN d)) t).1.2 (lsX d (perN d)) (lsY d (perN d))) _ = true := k2
        simp only [okP, inB, Bool.and_eq_true, decide_eq_true_eq] at k3
        omega
      exact fit_of (by omega) (by omega) (by omega) (by omega) (by omega) hx2
end Go.Proofs.YtibbokllongomaaDoor
