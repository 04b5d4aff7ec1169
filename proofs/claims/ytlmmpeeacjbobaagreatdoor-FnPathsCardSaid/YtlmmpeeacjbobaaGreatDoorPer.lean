/-
  Periods: the walk along the surds of a surd as plain functions, and the law of the roots.
-/
import Derived.Test.YtlmmpeeacjbobaaGreatDoorNext
namespace Go.Proofs.YtlmmpeeacjbobaaGreatDoor
open Go.RowKit

def nxt (d : Int) (x : Int × Int) : Int × Int := (hdS x.1 d x.2, tlS x.1 d x.2)
def okX (d : Int) (x : Int × Int) : Bool := okS x.1 d x.2
def tmX (d : Int) (x : Int × Int) : Int := flS x.1 d x.2
def orb (d : Int) (x : Int × Int) : Nat → Int × Int
  | 0 => x
  | n + 1 => nxt d (orb d x n)
/-- The first n elements. -/
def osn (o : Nat → Int × Int) (n : Nat) : List (Int × Int) := (List.range n).map o
theorem osn_len (o : Nat → Int × Int) (n : Nat) : (osn o n).length = n := by simp [osn]
theorem osn_succ (o : Nat → Int × Int) (n : Nat) : osn o (n + 1) = osn o n ++ [o n] := by simp [osn, List.range_succ]
theorem osn_get (o : Nat → Int × Int) (n k : Nat) (h : k < n) : (osn o n)[k]? = some (o k) := by simp [osn, h]
def fnd (o : Nat → Int × Int) (x : Int × Int) : Nat → Option Nat
  | 0 => none
  | n + 1 => match fnd o x n with
    | some j => some j
    | none => if o n = x then some n else none
theorem fnd_some {o : Nat → Int × Int} {x : Int × Int} {n j : Nat} (h : fnd o x n = some j) : j < n ∧ o j = x ∧ ∀ i, i < j → o i ≠ x := by
  induction n with
  | zero => simp [fnd] at h
  | succ n ih =>
    unfold fnd at h
    cases hf : fnd o x n with
    | some i =>
      rw [hf] at h
      simp only [Option.some.injEq] at h
      subst h
      obtain ⟨a, b, c⟩ := ih hf
      exact ⟨by omega, b, c⟩
    | none =>
      rw [hf] at h
      simp only at h
      split at h
      · rename_i he
        simp only [Option.some.injEq] at h
        subst h
        refine ⟨by omega, he, ?_⟩
        intro i hi
        have : ∀ m, fnd o x m = none → ∀ i, i < m → o i ≠ x := by
          intro m
          induction m with
          | zero => intro _ i hi; omega
          | succ m ihm =>
            intro hm i hi
            unfold fnd at hm
            cases hg : fnd o x m with
            | some k => rw [hg] at hm; simp at hm
            | none =>
              rw [hg] at hm
              simp only at hm
              split at hm
              · simp at hm
              · rename_i hne
                rcases Nat.lt_or_ge i m with h1 | h1
                · exact ihm hg i h1
                · obtain rfl : i = m := by omega
                  exact hne
        exact this n hf i hi
      · simp at h
theorem fnd_none {o : Nat → Int × Int} {x : Int × Int} {n : Nat} (h : fnd o x n = none) : ∀ i, i < n → o i ≠ x := by
  induction n with
  | zero => intro i hi; omega
  | succ n ih =>
    intro i hi
    unfold fnd at h
    cases hf : fnd o x n with
    | some j => rw [hf] at h; simp at h
    | none =>
      rw [hf] at h
      simp only at h
      split at h
      · simp at h
      · rename_i hne
        rcases Nat.lt_or_ge i n with h1 | h1
        · exact ih hf i h1
        · obtain rfl : i = n := by omega
          exact hne
/-- The walk: the index of the surd that comes again, and the number of surds ahead of it. -/
def wkF (d : Int) (o : Nat → Int × Int) : Nat → Nat → Option (Nat × Nat)
  | 0, _ => none
  | f + 1, n => match fnd o (o n) n with
    | some j => some (j, n)
    | none => if n = 400 then none else if okX d (o (n + 1)) then wkF d o f (n + 1) else none
def wk (d : Int) (x : Int × Int) : Option (Nat × Nat) := wkF d (orb d x) 401 0
theorem wkF_hit {d : Int} {o : Nat → Int × Int} {f n j : Nat} (h : fnd o (o n) n = some j) : wkF d o (f + 1) n = some (j, n) := by simp [wkF, h]
theorem wkF_end {d : Int} {o : Nat → Int × Int} {f n : Nat} (h : fnd o (o n) n = none) (h2 : n = 400) : wkF d o (f + 1) n = none := by subst h2; simp [wkF, h]
theorem wkF_bad {d : Int} {o : Nat → Int × Int} {f n : Nat} (h : fnd o (o n) n = none) (h2 : okX d (o (n + 1)) = false) : wkF d o (f + 1) n = none := by simp [wkF, h, h2]
theorem wkF_on {d : Int} {o : Nat → Int × Int} {f n : Nat} (h : fnd o (o n) n = none) (h1 : n ≠ 400) (h2 : okX d (o (n + 1)) = true) : wkF d o (f + 1) n = wkF d o f (n + 1) := by simp [wkF, h, h1, h2]
theorem wkF_some {d : Int} {o : Nat → Int × Int} : ∀ {f n j m : Nat}, wkF d o f n = some (j, m) → (∀ k, k ≤ n → okX d (o k) = true) → (∀ a b, a < b → b < n → o a ≠ o b) → n ≤ 400 →
    j < m ∧ m ≤ 400 ∧ o j = o m ∧ (∀ k, k ≤ m → okX d (o k) = true) ∧ (∀ a b, a < b → b < m → o a ≠ o b)
  | 0, _, _, _, h, _, _, _ => by simp [wkF] at h
  | f + 1, n, j, m, h, h1, h2, h3 => by
    cases hf : fnd o (o n) n with
    | some i =>
      rw [wkF_hit hf] at h
      simp only [Option.some.injEq, Prod.mk.injEq] at h
      obtain ⟨rfl, rfl⟩ := h
      obtain ⟨a, b, c⟩ := fnd_some hf
      exact ⟨a, h3, b, h1, h2⟩
    | none =>
      by_cases h4 : n = 400
      · rw [wkF_end hf h4] at h; simp at h
      · cases h5 : okX d (o (n + 1))
        · rw [wkF_bad hf h5] at h; simp at h
        · rw [wkF_on hf h4 h5] at h
          refine wkF_some h ?_ ?_ (by omega)
          · intro k hk
            rcases Nat.lt_or_ge k (n + 1) with g | g
            · exact h1 k (by omega)
            · obtain rfl : k = n + 1 := by omega
              exact h5
          · intro a b hab hb
            rcases Nat.lt_or_ge b n with g | g
            · exact h2 a b hab g
            · obtain rfl : b = n := by omega
              exact fnd_none hf a hab
theorem wk_some {d : Int} {x : Int × Int} {j m : Nat} (h : wk d x = some (j, m)) (h0 : okX d x = true) :
    j < m ∧ m ≤ 400 ∧ orb d x j = orb d x m ∧ (∀ k, k ≤ m → okX d (orb d x k) = true) ∧ (∀ a b, a < b → b < m → orb d x a ≠ orb d x b) := by
  refine wkF_some h ?_ ?_ (by omega)
  · intro k hk
    obtain rfl : k = 0 := by omega
    exact h0
  · intro a b _ hb; omega
/-- A walk whose surds all are plain and of which one comes again in time is not cut off. -/
theorem wkF_hits {d : Int} {o : Nat → Int × Int} {a b : Nat} (hab : a < b) (hb : b ≤ 400) (he : o a = o b) (hok : ∀ k, k ≤ 400 → okX d (o k) = true) : ∀ {f n : Nat}, n ≤ b → 401 ≤ f + n → ∃ j m, wkF d o f n = some (j, m)
  | 0, n, h1, h2 => by omega
  | f + 1, n, h1, h2 => by
    cases hf : fnd o (o n) n with
    | some i => exact ⟨i, n, wkF_hit hf⟩
    | none =>
      rcases Nat.lt_or_ge n b with h | h
      · obtain ⟨j, m, e⟩ := wkF_hits hab hb he hok (f := f) (n := n + 1) (by omega) (by omega)
        exact ⟨j, m, by rw [wkF_on hf (by omega) (hok _ (by omega)), e]⟩
      · obtain rfl : n = b := by omega
        exact absurd he (fnd_none hf a hab)

/-! The roots. -/
/-- What the surds of a root are behind the first one. -/
def RedX (d a0 : Int) (x : Int × Int) : Prop := (1 ≤ x.1 ∧ x.1 ≤ a0) ∧ (1 ≤ x.2 ∧ x.2 ≤ a0 + x.1 ∧ a0 < x.1 + x.2) ∧ x.2 ∣ d - x.1 * x.1
theorem sq_mono {a b : Int} (h0 : 0 ≤ a) (h : a ≤ b) : a * a ≤ b * b := Int.mul_le_mul h h h0 (by omega)
theorem step_facts {d a0 p q : Int} (h1 : a0 * a0 < d) (h2 : d < (a0 + 1) * (a0 + 1)) (hp2 : p ≤ a0) (hq : 1 ≤ q) (hq2 : q ≤ a0 + p) (hdv : q ∣ d - p * p) :
    ∃ a p' q', a = (p + a0) / q ∧ p' = a * q - p ∧ q * q' = d - p' * p' ∧ 1 ≤ a ∧ RedX d a0 (p', q') ∧ p' = a0 - (p + a0) % q := by
  have e1 := Int.mul_ediv_add_emod (p + a0) q
  have e2 := Int.emod_nonneg (p + a0) (show q ≠ 0 by omega)
  have e3 := Int.emod_lt_of_pos (p + a0) (show 0 < q by omega)

  have ea : 1 ≤ (p + a0) / q := by rw [Int.le_ediv_iff_mul_le (by omega)]; omega
  generalize hA : (p + a0) / q = a at *
  generalize hR : (p + a0) % q = r at *
  have e4 : a * q - p = a0 - r := by rw [Int.mul_comm]; omega
  have hq1a : q ≤ a * q := by
    have := Int.mul_le_mul_of_nonneg_right ea (show 0 ≤ q by omega)
    omega
  have p1 : 1 ≤ a * q - p := by omega
  have p2 : a * q - p ≤ a0 := by omega
  have dv2 : q ∣ d - (a * q - p) * (a * q - p) := by
    have hx : q ∣ a * q := Int.dvd_mul_left _ _
    generalize a * q = x at *
    have e : d - (x - p) * (x - p) = (d - p * p) + (x * p + p * x - x * x) := by
      simp only [Int.sub_mul, Int.mul_sub]
      omega
    rw [e]
    exact Int.dvd_add hdv (Int.dvd_sub (Int.dvd_add (Int.dvd_mul_of_dvd_left hx) (Int.dvd_mul_of_dvd_right hx)) (Int.dvd_mul_of_dvd_left hx))
  obtain ⟨q', hq'⟩ := dv2
  have s1 : (a * q - p) * (a * q - p) ≤ a0 * a0 := sq_mono (by omega) p2
  have q1 : 1 ≤ q' := by
    rcases Int.lt_or_le 0 q' with h | h
    · omega
    · have := Int.mul_nonneg (show 0 ≤ q by omega) (show 0 ≤ -q' by omega)
      rw [Int.mul_neg] at this
      omega
  have q2 : q' ≤ a0 + (a * q - p) := by
    rcases Int.lt_or_le (a0 + (a * q - p)) q' with h | h
    · exfalso
      have m1 := Int.mul_le_mul_of_nonneg_left (show a0 + (a * q - p) + 1 ≤ q' by omega) (show 0 ≤ q by omega)
      have m2 := Int.mul_le_mul_of_nonneg_right (show a0 + 1 - (a * q - p) ≤ q by omega) (show 0 ≤ a0 + (a * q - p) + 1 by omega)
      have m3 : (a0 + 1 - (a * q - p)) * (a0 + (a * q - p) + 1) = (a0 + 1) * (a0 + 1) - (a * q - p) * (a * q - p) := by
        simp only [Int.sub_mul, Int.mul_sub, Int.add_mul, Int.mul_add, Int.mul_comm, Int.mul_left_comm, Int.mul_assoc]
        omega
      omega
    · exact h
  have q3 : a0 < (a * q - p) + q' := by
    rcases Int.lt_or_le a0 ((a * q - p) + q') with h | h
    · exact h
    · exfalso
      have m1 := Int.mul_le_mul_of_nonneg_left (show q' ≤ r by omega) (show 0 ≤ q by omega)
      have m2 := Int.mul_le_mul_of_nonneg_right (show q ≤ a0 + a0 - r by omega) e2
      have m3 : (a0 - r) * (a0 - r) = a0 * a0 - (a0 + a0 - r) * r := by
        simp only [Int.mul_sub, Int.mul_add, Int.mul_comm]
        omega
      rw [← e4] at m3
      omega
  exact ⟨a, a * q - p, q', rfl, rfl, hq'.symm, ea, ⟨⟨p1, p2⟩, ⟨q1, q2, q3⟩, ⟨q, by show d - _ = q' * q; rw [hq', Int.mul_comm]⟩⟩, e4⟩
structure RootD (d a0 : Int) : Prop where
  low : a0 * a0 < d
  up : d < (a0 + 1) * (a0 + 1)
  one : 1 ≤ a0
  top : a0 ≤ 1000
  isq : ((isq d.toNat : Nat) : Int) = a0
  d2 : 2 ≤ d
  d6 : d ≤ 1000000
  nsq : sqB d = false
theorem rootD {d : Int} (h1 : 2 ≤ d) (h2 : d ≤ 1000000) (h3 : sqB d = false) : RootD d ((isq d.toNat : Nat) : Int) := by
  obtain ⟨s1, s2⟩ := isq_spec d.toNat (by omega)
  have s3 := isq_small d.toNat (by omega)
  have c1 := cast_sq (isq d.toNat)
  have c2 := cast_sq1 (isq d.toNat)
  have h4 : isq d.toNat * isq d.toNat ≠ d.toNat := by
    intro h
    unfold sqB at h3
    rw [if_neg (by omega)] at h3
    simp [h] at h3
  have h5 : 1 ≤ isq d.toNat := by
    rcases Nat.lt_or_ge 0 (isq d.toNat) with h | h
    · exact h
    · have : isq d.toNat = 0 := by omega
      rw [this] at s2
      omega
  exact ⟨by omega, by omega, by omega, by omega, rfl, h1, h2, h3⟩
theorem nxt_eq {d a0 p q a p' q' : Int} (R : RootD d a0) (hq : 1 ≤ q) (h1 : a = (p + a0) / q) (h2 : p' = a * q - p) (h3 : q * q' = d - p' * p') : nxt d (p, q) = (p', q') ∧ tmX d (p, q) = a := by
  have e1 : flS p d q = a := by unfold flS; rw [if_pos (by omega), R.isq, h1]
  have e2 : hdS p d q = p' := by unfold hdS; rw [e1, h2]
  refine ⟨?_, e1⟩
  unfold nxt tlS
  simp only
  rw [e2, ← h3, Int.mul_tdiv_cancel_left _ (by omega)]
theorem red_step {d a0 : Int} (R : RootD d a0) {x : Int × Int} (h : RedX d a0 x) : RedX d a0 (nxt d x) ∧ 1 ≤ tmX d x ∧ tmX d x ≤ 2 * a0 ∧ x.2 * (nxt d x).2 = d - (nxt d x).1 * (nxt d x).1 ∧ (nxt d x).1 = a0 - (x.1 + a0) % x.2 ∧ (nxt d x).1 = tmX d x * x.2 - x.1 := by
  obtain ⟨p, q⟩ := x
  obtain ⟨⟨h1, h2⟩, ⟨h3, h4, h5⟩, h6⟩ := h
  simp only at h1 h2 h3 h4 h5 h6
  obtain ⟨a, p', q', g1, g2, g3, g4, g5, g6⟩ := step_facts R.low R.up h2 h3 h4 h6
  obtain ⟨e1, e2⟩ := nxt_eq R h3 g1 g2 g3
  rw [e1, e2]
  refine ⟨g5, g4, ?_, g3, g6, g2⟩
  rw [g1]
  refine Int.ediv_le_of_le_mul (by omega) ?_
  have := Int.mul_le_mul_of_nonneg_left (show 1 ≤ q from h3) (show 0 ≤ 2 * a0 by have := R.one; omega)
  omega
theorem root_zero {d a0 : Int} (R : RootD d a0) : nxt d (0, 1) = (a0, d - a0 * a0) ∧ tmX d (0, 1) = a0 ∧ RedX d a0 (a0, d - a0 * a0) := by
  have h1 := R.low
  have h2 := R.up
  have h3 := R.one
  obtain ⟨e1, e2⟩ := nxt_eq (p := 0) (q := 1) (a := a0) (p' := a0) (q' := d - a0 * a0) R (by omega) (by simp) (by omega) (by omega)
  have h4 : (a0 + 1) * (a0 + 1) = a0 * a0 + 2 * a0 + 1 := by rw [Int.add_mul, Int.mul_add]; omega
  exact ⟨e1, e2, ⟨by simp only; omega, by simp only; omega⟩, ⟨by simp only; omega, by simp only; omega, by simp only; omega⟩, Int.dvd_refl _⟩
theorem red_ok {d a0 : Int} (R : RootD d a0) {x : Int × Int} (h : RedX d a0 x) : okX d x = true := by
  obtain ⟨p, q⟩ := x
  obtain ⟨⟨h1, h2⟩, ⟨h3, h4, h5⟩, h6⟩ := h
  simp only at h1 h2 h3 h4 h5 h6
  have := R.top
  have k1 : inB d 2 1000000 = true := inB_iff.2 ⟨R.d2, R.d6⟩
  have k2 : inB p (-1000000) 1000000 = true := inB_iff.2 ⟨by omega, by omega⟩
  have k3 : inB q (-1000000) 1000000 = true := inB_iff.2 ⟨by omega, by omega⟩
  have k4 : (d - p * p).tmod q = 0 := Int.tmod_eq_zero_of_dvd h6
  have k5 : (q != 0) = true := by simp; omega
  simp [okX, okS, k1, k2, k3, k4, k5, R.nsq]
theorem root_ok0 {d a0 : Int} (R : RootD d a0) : okX d (0, 1) = true := by
  simp [okX, okS, R.nsq, inB, R.d2, R.d6]
theorem orb_red {d a0 : Int} (R : RootD d a0) (n : Nat) : RedX d a0 (orb d (0, 1) (n + 1)) := by
  induction n with
  | zero => show RedX d a0 (nxt d (0, 1)); rw [(root_zero R).1]; exact (root_zero R).2.2
  | succ n ih => exact (red_step R ih).1
theorem orb_ok {d a0 : Int} (R : RootD d a0) (n : Nat) : okX d (orb d (0, 1) n) = true := by
  cases n with
  | zero => exact root_ok0 R
  | succ n => exact red_ok R (orb_red R n)
theorem red_one {d a0 : Int} (R : RootD d a0) {x : Int × Int} (h : RedX d a0 x) (h1 : nxt d x = (a0, d - a0 * a0)) : x = (a0, 1) := by
  obtain ⟨r1, r2, r3, r4, r5, r6⟩ := red_step R h
  obtain ⟨⟨g1, g2⟩, ⟨g3, g4, g5⟩, g6⟩ := h
  rw [h1] at r4
  simp only at r4
  have hl := R.low
  have : x.2 = 1 := by
    have m : (x.2 - 1) * (d - a0 * a0) = 0 := by rw [Int.sub_mul, r4]; omega
    rcases Int.mul_eq_zero.1 m with h | h <;> omega
  obtain ⟨p, q⟩ := x
  simp only at this g1 g2 g3 g4 g5
  subst this
  obtain rfl : p = a0 := by omega
  rfl
theorem one_next {d a0 : Int} (R : RootD d a0) : nxt d (a0, 1) = (a0, d - a0 * a0) := by
  have := R.one
  exact (nxt_eq (p := a0) (q := 1) (a := 2 * a0) (p' := a0) (q' := d - a0 * a0) R (by omega) (by rw [Int.ediv_one]; omega) (by omega) (by omega)).1
theorem mod_same {a b q r : Int} (h : a % q = b % q) (h1 : r < a) (h2 : a ≤ r + q) (h3 : r < b) (h4 : b ≤ r + q) : a = b := by
  have e1 := Int.mul_ediv_add_emod a q
  have e2 := Int.mul_ediv_add_emod b q
  have e3 : q * (a / q - b / q) = a - b := by rw [Int.mul_sub]; omega
  have hq : 0 < q := by omega
  rcases Int.lt_trichotomy (a / q - b / q) 0 with h | h | h
  · have := Int.mul_le_mul_of_nonneg_left (show a / q - b / q ≤ -1 by omega) (show 0 ≤ q by omega); omega
  · rw [h] at e3; omega
  · have := Int.mul_le_mul_of_nonneg_left (show 1 ≤ a / q - b / q by omega) (show 0 ≤ q by omega); omega
theorem red_inj {d a0 : Int} (R : RootD d a0) {x y : Int × Int} (hx : RedX d a0 x) (hy : RedX d a0 y) (h : nxt d x = nxt d y) : x = y := by
  obtain ⟨r1, r2, r3, r4, r5, r6⟩ := red_step R hx
  obtain ⟨s1, s2, s3, s4, s5, s6⟩ := red_step R hy
  obtain ⟨_, ⟨t1, _, _⟩, _⟩ := s1
  rw [h] at r4 r5
  obtain ⟨⟨g1, g2⟩, ⟨g3, g4, g5⟩, g6⟩ := hx
  obtain ⟨⟨k1, k2⟩, ⟨k3, k4, k5⟩, k6⟩ := hy
  obtain ⟨p, q⟩ := x
  obtain ⟨p2, q2⟩ := y
  simp only at *
  have hq : q = q2 := by
    have : (q - q2) * (nxt d (p2, q2)).2 = 0 := by rw [Int.sub_mul]; omega
    rcases Int.mul_eq_zero.1 this with h | h <;> omega
  subst hq
  have hp : p + a0 = p2 + a0 := mod_same (r := a0 - q + a0) (q := q) (by omega) (by omega) (by omega) (by omega) (by omega)
  rw [show p = p2 by omega]
/-- The walk of a root: the first surd that comes again is the second one, and the one ahead of it is the root plus its floor. -/
theorem root_walk {d a0 : Int} (R : RootD d a0) {j m : Nat} (h : wk d (0, 1) = some (j, m)) : j = 1 ∧ 2 ≤ m ∧ m ≤ 400 ∧ orb d (0, 1) (m - 1) = (a0, 1) := by
  obtain ⟨h1, h2, h3, h4, h5⟩ := wk_some h (root_ok0 R)
  obtain ⟨m, rfl⟩ : ∃ k, m = k + 1 := ⟨m - 1, by omega⟩
  have hr := orb_red R m
  rcases Nat.eq_zero_or_pos j with h0 | h0
  · exfalso
    subst h0
    rw [← h3] at hr
    obtain ⟨⟨g1, _⟩, _⟩ := hr
    simp [orb] at g1
  · have hm : 2 ≤ m + 1 := by omega
    obtain ⟨m, rfl⟩ : ∃ k, m = k + 1 := ⟨m - 1, by omega⟩
    have hr2 := orb_red R m
    have hj : j = 1 := by
      rcases Nat.lt_or_ge 1 j with g | g
      · exfalso
        obtain ⟨j, rfl⟩ : ∃ k, j = k + 1 + 1 := ⟨j - 2, by omega⟩
        exact h5 (j + 1) (m + 1) (by omega) (by omega) (red_inj R (orb_red R j) hr2 h3)
      · omega
    subst hj
    refine ⟨rfl, by omega, h2, ?_⟩
    have : nxt d (orb d (0, 1) (m + 1)) = (a0, d - a0 * a0) := by rw [← (root_zero R).1]; exact h3.symm
    exact red_one R hr2 this
def prB : Nat → Nat → Nat → Nat → Nat → Bool
  | 0, _, _, _, _ => false
  | f + 1, d, a0, p, q => if q = 1 then true else prB f d a0 ((p + a0) / q * q - p) ((d - ((p + a0) / q * q - p) * ((p + a0) / q * q - p)) / q)
theorem prB_spec {d a0 : Nat} (R : RootD d a0) : ∀ (f : Nat) (n p q : Nat), prB f d a0 p q = true → orb d (0, 1) (n + 1) = (((p : Nat) : Int), ((q : Nat) : Int)) → ∃ k, k < f ∧ orb d (0, 1) (n + 1 + k) = ((a0 : Int), 1)
  | 0, _, _, _, h, _ => by simp [prB] at h
  | f + 1, n, p, q, h, he => by
    have hr := orb_red R n
    have hs := red_step R hr
    rw [he] at hr hs
    obtain ⟨⟨g1, g2⟩, ⟨g3, g4, g5⟩, g6⟩ := hr
    simp only at g1 g2 g3 g4 g5 g6
    unfold prB at h
    split at h
    · rename_i h1
      subst h1
      refine ⟨0, by omega, ?_⟩
      rw [Nat.add_zero, he]
      rw [show ((p : Nat) : Int) = (a0 : Int) by omega]
      rfl
    · obtain ⟨⟨⟨u1, u2⟩, ⟨u3, u4, u5⟩, u6⟩, v1, v2, v3, v4, v5⟩ := hs
      have e1 : tmX (d : Int) ((p : Int), (q : Int)) = (((p + a0) / q : Nat) : Int) := by
        unfold tmX flS
        simp only
        rw [if_pos (by omega), R.isq, Int.natCast_ediv, Int.natCast_add]
      have e2 : (nxt (d : Int) ((p : Int), (q : Int))).1 = (((p + a0) / q * q - p : Nat) : Int) := by
        rw [v5, e1] at u1 ⊢
        simp only at u1 ⊢
        have c : (((p + a0) / q : Nat) : Int) * (q : Int) = (((p + a0) / q * q : Nat) : Int) := (Int.natCast_mul _ _).symm
        rw [c] at u1 ⊢
        omega
      have e3 : (nxt (d : Int) ((p : Int), (q : Int))).2 = (((d - ((p + a0) / q * q - p) * ((p + a0) / q * q - p)) / q : Nat) : Int) := by
        rw [e2] at v3
        generalize (p + a0) / q * q - p = s at *
        have c := cast_sq s
        simp only at v3
        rw [← c] at v3
        have hpos : 0 ≤ (q : Int) * (nxt (d : Int) ((p : Int), (q : Int))).2 := Int.mul_nonneg (by omega) (by omega)
        rw [Int.natCast_ediv, show ((d - s * s : Nat) : Int) = (q : Int) * (nxt (d : Int) ((p : Int), (q : Int))).2 by omega, Int.mul_ediv_cancel_left _ (by omega)]
      obtain ⟨k, hk, hk2⟩ := prB_spec R f (n + 1) _ _ h (by show nxt d (orb d (0, 1) (n + 1)) = _; rw [he, ← e2, ← e3])
      exact ⟨k + 1, by omega, by rw [← hk2]; congr 1; omega⟩
theorem per_all : (List.range 99).all (fun i => (List.range (2 * (i + 1))).all fun r => prB 390 ((i + 1) * (i + 1) + (r + 1)) (i + 1) (i + 1) (r + 1)) = true := by decide +kernel
/-- The walk of a root up to the one of 10000 comes to its end. -/
theorem root_hits {d : Int} (h1 : 2 ≤ d) (h2 : d ≤ 10000) (h3 : sqB d = false) : ∃ m, wk d (0, 1) = some (1, m) ∧ 2 ≤ m ∧ m ≤ 400 ∧ orb d (0, 1) (m - 1) = (((isq d.toNat : Nat) : Int), 1) := by
  have R := rootD h1 (by omega) h3
  obtain ⟨D, rfl⟩ := Int.eq_ofNat_of_zero_le (show 0 ≤ d by omega)
  rw [Int.toNat_natCast] at R ⊢
  have hA : isq D < 100 := by
    have l := R.low
    have c := cast_sq (isq D)
    rcases Nat.lt_or_ge (isq D) 100 with h | h
    · exact h
    · have := Nat.mul_le_mul h h; omega
  have hB := R.one
  have hu := R.up
  have hl := R.low
  generalize isq D = A at *
  have c1 := cast_sq A
  have c2 := cast_sq1 A
  have c3 : (A + 1) * (A + 1) = A * A + 2 * A + 1 := by rw [Nat.add_mul, Nat.mul_add]; omega
  obtain ⟨i, rfl⟩ : ∃ i, A = i + 1 := ⟨A - 1, by omega⟩
  obtain ⟨r, rfl⟩ : ∃ r, D = (i + 1) * (i + 1) + (r + 1) := ⟨D - (i + 1) * (i + 1) - 1, by omega⟩
  have hall := per_all
  rw [List.all_eq_true] at hall
  have h4 := hall i (List.mem_range.2 (by omega))
  rw [List.all_eq_true] at h4
  have h5 := h4 r (List.mem_range.2 (by omega))
  clear hall h4
  have hz : orb (((i + 1) * (i + 1) + (r + 1) : Nat) : Int) (0, 1) (0 + 1) = (((i + 1 : Nat) : Int), ((r + 1 : Nat) : Int)) := by
    show nxt _ (0, 1) = _
    rw [(root_zero R).1]
    have : (((i + 1) * (i + 1) + (r + 1) : Nat) : Int) - ((i + 1 : Nat) : Int) * ((i + 1 : Nat) : Int) = ((r + 1 : Nat) : Int) := by omega
    rw [this]
  obtain ⟨k, hk, hk2⟩ := prB_spec R 390 0 _ _ h5 hz
  have hrep : orb (((i + 1) * (i + 1) + (r + 1) : Nat) : Int) (0, 1) 1 = orb (((i + 1) * (i + 1) + (r + 1) : Nat) : Int) (0, 1) (0 + 1 + k + 1) := by
    show _ = nxt _ (orb _ (0, 1) (0 + 1 + k))
    rw [hk2, one_next R]
    exact (root_zero R).1
  obtain ⟨j, m, hw⟩ := wkF_hits (d := (((i + 1) * (i + 1) + (r + 1) : Nat) : Int)) (o := orb _ (0, 1)) (a := 1) (b := 0 + 1 + k + 1) (by omega) (by omega) hrep (fun k _ => orb_ok R k) (f := 401) (n := 0) (by omega) (by omega)
  have hw' : wk (((i + 1) * (i + 1) + (r + 1) : Nat) : Int) (0, 1) = some (j, m) := hw
  obtain ⟨rfl, g1, g2, g3⟩ := root_walk R hw'
  exact ⟨m, hw', g1, g2, g3⟩
end Go.Proofs.YtlmmpeeacjbobaaGreatDoor
