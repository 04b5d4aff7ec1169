/-
  What FnSurds asks of a drawn surd: plain facts.
-/
import Derived.Test.YtibbokllongomaaDoorNext
import Derived.Test.YtibbokllongomaaDoorEq
import Derived.Test.YtibbokllongomaaDoorSurd2
namespace Go.Proofs.YtibbokllongomaaDoor
open Go.RowKit

def rtS (d : Int) : Int := ((isq d.toNat : Nat) : Int)
theorem rt_facts {p d q : Int} (h : okS p d q = true) : 1 ≤ rtS d ∧ rtS d ≤ 1000 ∧ rtS d * rtS d < d ∧ d < (rtS d + 1) * (rtS d + 1) := by
  obtain ⟨a1, a2, _, _, _, _, _, a8, _⟩ := okS_bd h
  obtain ⟨s1, s2⟩ := isq_spec d.toNat (by omega)
  have hs := isq_small d.toNat (by omega)
  have e1 := cast_sq (isq d.toNat)
  have e2 := cast_sq1 (isq d.toNat)
  have hne : isq d.toNat * isq d.toNat ≠ d.toNat := by
    intro e
    unfold sqB at a8
    rw [if_neg (by omega), e] at a8
    simp at a8
  have h1 : 1 ≤ isq d.toNat := by
    rcases Nat.eq_zero_or_pos (isq d.toNat) with e | e
    · rw [e] at s2; omega
    · exact e
  unfold rtS
  omega
theorem fl_x {p d q : Int} (h : okS p d q = true) : (0 < q → hdS p d q ≤ rtS d ∧ rtS d < hdS p d q + q) ∧ (q < 0 → rtS d < hdS p d q ∧ hdS p d q + q ≤ rtS d) := by
  have hq := (okS_bd h).2.2.2.2.2.2.1
  unfold hdS flS
  show (0 < q → (if q > 0 then (p + rtS d) / q else (p + rtS d) / q - 1) * q - p ≤ rtS d ∧ _ < (if q > 0 then (p + rtS d) / q else (p + rtS d) / q - 1) * q - p + q) ∧ (q < 0 → _ < (if q > 0 then (p + rtS d) / q else (p + rtS d) / q - 1) * q - p ∧ (if q > 0 then (p + rtS d) / q else (p + rtS d) / q - 1) * q - p + q ≤ _)
  generalize rtS d = r
  constructor
  · intro h0
    rw [if_pos h0]
    have h1 := Int.ediv_mul_le (p + r) (show q ≠ 0 by omega)
    have h2 := Int.lt_ediv_add_one_mul_self (p + r) h0
    rw [Int.add_mul, Int.one_mul] at h2
    omega
  · intro h0
    rw [if_neg (by omega), Int.sub_mul, Int.one_mul]
    have h1 := Int.ediv_mul_le (p + r) (show q ≠ 0 by omega)
    have h2 := Int.emod_add_mul_ediv (p + r) q
    have h3 := Int.emod_lt (p + r) hq
    have h4 := Int.emod_nonneg (p + r) hq
    rw [Int.mul_comm] at h2
    omega
theorem isq_one (d : Int) : ((isq (d * 1 * 1).toNat : Nat) : Int) = rtS d := by rw [Int.mul_one, Int.mul_one]; rfl
/-- The comparison with an integer: by n q - p and the root. -/
theorem less_one {p d q n : Int} (hr : 1 ≤ rtS d) : lessB p d q n 1 = if q > 0 then decide (rtS d < n * q - p) else !decide (rtS d < n * q - p) := by
  unfold lessB lessV
  rw [isq_one, Int.mul_one]
  have : (decide (n * q - p > 0) && decide (n * q - p > rtS d)) = decide (rtS d < n * q - p) := by
    by_cases h : rtS d < n * q - p
    · rw [decide_eq_true h, decide_eq_true (show n * q - p > 0 by omega)]; rfl
    · rw [decide_eq_false h, Bool.and_false]
  rw [this]
theorem okF_int {n : Int} (h1 : -1000000000 ≤ n) (h2 : n ≤ 1000000000) : okF n 1 = true := okF_iff.2 ⟨by omega, ⟨h1, h2⟩, by simp⟩
theorem cmp_of {p d q n : Int} (h : okS p d q = true) (h1 : -1000000 ≤ n) (h2 : n ≤ 1000000) : cmpM p d q n 1 = (cmpV p d q n 1, 0) := by
  unfold cmpM
  rw [h, okF_int (by omega) (by omega), if_pos (show (true && true) = true from rfl), inB_iff.2 ⟨h1, h2⟩, if_pos (by decide)]
structure SdF (p d q : Int) : Prop where
  fl : -2000 ≤ flS p d q ∧ flS p d q ≤ 2000
  low : cmpM p d q (flS p d q) 1 = (1, 0)
  high : cmpM p d q (flS p d q + 1) 1 = (-1, 0)
  conj : conjM p d q = (-p, d, -q, 0)
  back : conjM (-p) d (-q) = (p, d, q, 0)
  ok2 : okS (-p) d (-q) = true
  nx : nxM p d q = (flS p d q, (hdS p d q, d, tlS p d q), 0)
  ok3 : okS (hdS p d q) d (tlS p d q) = true
  more : cmpM (hdS p d q) d (tlS p d q) 1 1 = (1, 0)
  sq : hdS p d q * hdS p d q + tlS p d q * q = d
  bd : (-100 ≤ hdS p d q ∧ hdS p d q ≤ 100) ∧ (-20000 ≤ tlS p d q ∧ tlS p d q ≤ 20000) ∧ (-2000 ≤ flS p d q * q ∧ flS p d q * q ≤ 2000)
theorem dvd_sub_sq {p x q d : Int} (h1 : q ∣ d - p * p) (h2 : ∃ a, x = a * q - p) : q ∣ d - x * x := by
  obtain ⟨a, rfl⟩ := h2
  obtain ⟨k, hk⟩ := h1
  refine ⟨k - a * a * q + 2 * a * p, ?_⟩
  have : d - (a * q - p) * (a * q - p) = (d - p * p) - q * (a * a * q - 2 * a * p) := by grind
  rw [this, hk]
  grind
theorem sd_core {p d q a x t : Int} (h : okS p d q = true) (hd : d ≤ 702) (hp1 : -20 ≤ p) (hp2 : p ≤ 20) (hq1 : -40 ≤ q) (hq2 : q ≤ 40) (r1 : 1 ≤ rtS d) (r3 : rtS d * rtS d < d) (r4 : d < (rtS d + 1) * (rtS d + 1))
    (f1 : 0 < q → x ≤ rtS d ∧ rtS d < x + q) (f2 : q < 0 → rtS d < x ∧ x + q ≤ rtS d) (hx : x = a * q - p) (hxb : -66 ≤ x ∧ x ≤ 66) (hsq : x * x + t * q = d) (_hflq : a * q = x + p) :
    (-86 ≤ a ∧ a ≤ 86) ∧ okS (-p) d (-q) = true ∧ okS x d t = true ∧ (-5100 ≤ t ∧ t ≤ 5100) ∧ lessB x d t 1 1 = false := by
  obtain ⟨a1, a2, a3, a4, a5, a6, a7, a8, a9⟩ := okS_bd h
  have hdv : q ∣ d - p * p := Int.dvd_of_tmod_eq_zero a9
  have hfl : -86 ≤ a ∧ a ≤ 86 := by
    have hab : a.natAbs ≤ (a * q).natAbs := by
      rw [Int.natAbs_mul]
      exact Nat.le_mul_of_pos_right _ (by omega)
    omega
  have hsqx : 0 ≤ x * x ∧ x * x ≤ 4356 := by
    have := @mul_bd x x 66 66 (by omega) (by omega) (by omega) (by omega)
    have e : x * x = ((x.natAbs * x.natAbs : Nat) : Int) := by rw [Int.natAbs_mul_self]
    omega
  have htb : -5100 ≤ t ∧ t ≤ 5100 := by
    have hab : t.natAbs ≤ (t * q).natAbs := by
      rw [Int.natAbs_mul]
      exact Nat.le_mul_of_pos_right _ (by omega)
    omega
  have ht0 : t ≠ 0 := by
    rintro rfl
    have e : x * x = d := by omega
    have e2 : (x.natAbs * x.natAbs : Nat) = d.toNat := by
      have := Int.natAbs_mul_self (a := x)
      omega
    have e3 := isq_eq (n := d.toNat) (r := x.natAbs) (by omega) (by omega) (by rw [← e2]; exact Nat.mul_lt_mul_of_lt_of_lt (by omega) (by omega))
    unfold sqB at a8
    rw [if_neg (by omega), e3, e2] at a8
    simp at a8
  have hdt : t ∣ d - x * x := ⟨q, by omega⟩
  have k1 : inB d 2 1000000 = true := inB_iff.2 ⟨by omega, by omega⟩
  have hok3 : okS x d t = true := by
    have k2 : inB x (-1000000) 1000000 = true := inB_iff.2 ⟨by omega, by omega⟩
    have k3 : inB t (-1000000) 1000000 = true := inB_iff.2 ⟨by omega, by omega⟩
    have k4 : (d - x * x).tmod t = 0 := Int.tmod_eq_zero_of_dvd hdt
    have k5 : (t != 0) = true := by simpa using ht0
    simp [okS, k1, k2, k3, k4, k5, a8]
  have hok2 : okS (-p) d (-q) = true := by
    have k2 : inB (-p) (-1000000) 1000000 = true := inB_iff.2 ⟨by omega, by omega⟩
    have k3 : inB (-q) (-1000000) 1000000 = true := inB_iff.2 ⟨by omega, by omega⟩
    have k4 : (d - -p * -p).tmod (-q) = 0 := by rw [Int.neg_mul_neg]; exact Int.tmod_eq_zero_of_dvd (Int.neg_dvd.2 hdv)
    have k5 : (-q != 0) = true := by simpa using a7
    simp only [okS, k1, k2, k3, k4, k5, a8]
    rfl
  refine ⟨hfl, hok2, hok3, htb, ?_⟩
  rw [less_one r1, Int.one_mul]
  generalize rtS d = r at *
  rcases Int.lt_or_lt_of_ne a7 with g | g
  · obtain ⟨g1, g2⟩ := f2 g
    have hxx : r * r + r + r + 1 ≤ x * x := by
      have := Int.mul_le_mul (show r + 1 ≤ x by omega) (show r + 1 ≤ x by omega) (by omega) (by omega)
      grind
    have hr4 : (r + 1) * (r + 1) = r * r + r + r + 1 := by grind
    have ht1 : 0 < t := by
      rcases Int.lt_or_lt_of_ne ht0 with k | k
      · have := Int.mul_pos_of_neg_of_neg k g; omega
      · exact k
    rw [if_pos ht1, decide_eq_false]
    intro hc
    have m := Int.mul_le_mul (show r + x + 1 ≤ t by omega) (show x - r ≤ -q by omega) (by omega) (by omega)
    have e1 : (r + x + 1) * (x - r) = x * x - r * r + x - r := by grind
    have e2 : t * -q = -(t * q) := by grind
    omega
  · obtain ⟨g1, g2⟩ := f1 g
    by_cases hxr : -r ≤ x
    · have hxx : x * x ≤ r * r := by
        have e : x * x = ((x.natAbs * x.natAbs : Nat) : Int) := by rw [Int.natAbs_mul_self]
        have e' : r * r = ((r.natAbs * r.natAbs : Nat) : Int) := by rw [Int.natAbs_mul_self]
        have := Nat.mul_le_mul (show x.natAbs ≤ r.natAbs by omega) (show x.natAbs ≤ r.natAbs by omega)
        omega
      have ht1 : 0 < t := by
        rcases Int.lt_or_lt_of_ne ht0 with k | k
        · have := Int.mul_neg_of_neg_of_pos k g; omega
        · exact k
      rw [if_pos ht1, decide_eq_false]
      intro hc
      have m := Int.mul_le_mul (show r + x + 1 ≤ t by omega) (show r + 1 - x ≤ q by omega) (by omega) (by omega)
      have e1 : (r + x + 1) * (r + 1 - x) = (r + 1) * (r + 1) - x * x := by grind
      omega
    · have hxx : (r + 1) * (r + 1) ≤ x * x := by
        have := Int.mul_le_mul (show r + 1 ≤ -x by omega) (show r + 1 ≤ -x by omega) (by omega) (by omega)
        grind
      have ht1 : t < 0 := by
        rcases Int.lt_or_lt_of_ne ht0 with k | k
        · exact k
        · have := Int.mul_pos k g; omega
      rw [if_neg (by omega), decide_eq_true]
      · rfl
      · rcases Int.lt_or_le r (t - x) with k | k
        · exact k
        · exfalso
          have m := Int.mul_le_mul (show -x - r ≤ -t by omega) (show r + 1 - x ≤ q by omega) (by omega) (by omega)
          have e1 : (-x - r) * (r + 1 - x) = x * x - r * r - x - r := by grind
          have e2 : -t * q = -(t * q) := by grind
          omega
theorem sd_facts {p d q : Int} (h : okS p d q = true) (hd : d ≤ 702) (hp1 : -20 ≤ p) (hp2 : p ≤ 20) (hq1 : -40 ≤ q) (hq2 : q ≤ 40) : SdF p d q := by
  obtain ⟨r1, r2, r3, r4⟩ := rt_facts h
  obtain ⟨f1, f2⟩ := fl_x h
  obtain ⟨a1, a2, a3, a4, a5, a6, a7, a8, a9⟩ := okS_bd h
  have hr26 : rtS d ≤ 26 := by
    rcases Int.lt_or_le 26 (rtS d) with e | e
    · have := Int.mul_le_mul (show 27 ≤ rtS d by omega) (show 27 ≤ rtS d by omega) (by omega) (by omega)
      omega
    · exact e
  have hdv : q ∣ d - p * p := Int.dvd_of_tmod_eq_zero a9
  have hx : hdS p d q = flS p d q * q - p := rfl
  have hxb : -66 ≤ hdS p d q ∧ hdS p d q ≤ 66 := by
    rcases Int.lt_or_lt_of_ne a7 with g | g
    · have := f2 g; omega
    · have := f1 g; omega
  have hdx : q ∣ d - hdS p d q * hdS p d q := dvd_sub_sq hdv ⟨_, hx⟩
  have hsq : hdS p d q * hdS p d q + tlS p d q * q = d := by
    have : tlS p d q * q = d - hdS p d q * hdS p d q := Int.tdiv_mul_cancel hdx
    omega
  have hflq : flS p d q * q = hdS p d q + p := by omega
  obtain ⟨c1, c2, c3, c4, c5⟩ := sd_core (a := flS p d q) (x := hdS p d q) (t := tlS p d q) h hd hp1 hp2 hq1 hq2 r1 r3 r4 f1 f2 hx hxb hsq hflq
  refine ⟨by omega, ?_, ?_, by unfold conjM; rw [if_pos h], by unfold conjM; rw [if_pos c2]; simp, c2, ?_, c3, ?_, hsq, ⟨by omega, by omega⟩, ⟨by omega, by omega⟩, by omega, by omega⟩
  · rw [cmp_of h (by omega) (by omega)]
    have hl : lessB p d q (flS p d q) 1 = false := by
      rw [less_one r1, ← hx]
      rcases Int.lt_or_lt_of_ne a7 with g | g
      · rw [if_neg (by omega), decide_eq_true (f2 g).1]; rfl
      · rw [if_pos g, decide_eq_false (by have := f1 g; omega)]
    rw [cmpV_f hl]
  · rw [cmp_of h (by omega) (by omega)]
    have hl : lessB p d q (flS p d q + 1) 1 = true := by
      rw [less_one r1]
      have e : (flS p d q + 1) * q - p = hdS p d q + q := by rw [Int.add_mul, Int.one_mul]; omega
      rw [e]
      rcases Int.lt_or_lt_of_ne a7 with g | g
      · rw [if_neg (by omega), decide_eq_false (by have := f2 g; omega)]; rfl
      · rw [if_pos g, decide_eq_true (f1 g).2]
    rw [cmpV_t hl]
  · unfold nxM
    rw [if_pos h, if_pos c3]
  · rw [cmp_of c3 (by omega) (by omega), cmpV_f c5]
/-- The equation. -/
structure EqF (p d q : Int) : Prop where
  cd : (eqM p d q).2.2.2 = 0
  x : 1 ≤ (eqM p d q).1 ∧ (eqM p d q).1 ≤ 40
  y : -40 ≤ (eqM p d q).2.1 ∧ (eqM p d q).2.1 ≤ 40
  z : -2000 ≤ (eqM p d q).2.2.1 ∧ (eqM p d q).2.2.1 ≤ 2000
  e1 : 2 * (eqM p d q).1 * p + (eqM p d q).2.1 * q = 0
  e2 : (eqM p d q).1 * (p * p + d) + (eqM p d q).2.1 * p * q + (eqM p d q).2.2.1 * q * q = 0
  g : Nat.gcd (Nat.gcd (eqM p d q).1.natAbs (eqM p d q).2.1.natAbs) (eqM p d q).2.2.1.natAbs = 1
theorem quot_facts {x g : Int} (hg : g ≠ 0) (hd : g ∣ x) : x.tdiv g * g = x ∧ (x.tdiv g).natAbs * g.natAbs = x.natAbs ∧ (x.tdiv g).natAbs ≤ x.natAbs := by
  have h1 := Int.tdiv_mul_cancel hd
  have h2 : (x.tdiv g).natAbs * g.natAbs = x.natAbs := by rw [← Int.natAbs_mul, h1]
  refine ⟨h1, h2, ?_⟩
  rw [← h2]
  exact Nat.le_mul_of_pos_right _ (by omega)
theorem eq_law {p d q : Int} (h : okS p d q = true) (hd : d ≤ 702) (hp1 : -20 ≤ p) (hp2 : p ≤ 20) (hq1 : -40 ≤ q) (hq2 : q ≤ 40) : EqF p d q := by
  obtain ⟨a1, a2, a3, a4, a5, a6, a7, a8, a9⟩ := okS_bd h
  obtain ⟨_, _, ⟨g1, _⟩, ⟨g2, _⟩⟩ := eq_facts h
  have hdv : q ∣ p * p - d := by
    have := Int.dvd_of_tmod_eq_zero a9
    have e : p * p - d = -(d - p * p) := by omega
    rw [e]
    exact Int.dvd_neg.2 this
  have hc : (p * p - d).tdiv q * q = p * p - d := Int.tdiv_mul_cancel hdv
  have hpp : 0 ≤ p * p ∧ p * p ≤ 400 := by
    have := @mul_bd p p 20 20 (by omega) (by omega) (by omega) (by omega)
    have e : p * p = ((p.natAbs * p.natAbs : Nat) : Int) := by rw [Int.natAbs_mul_self]
    omega
  have hcb : ((p * p - d).tdiv q).natAbs ≤ 1102 := by
    have h2 : ((p * p - d).tdiv q).natAbs * q.natAbs = (p * p - d).natAbs := by rw [← Int.natAbs_mul, hc]
    have : ((p * p - d).tdiv q).natAbs ≤ ((p * p - d).tdiv q).natAbs * q.natAbs := Nat.le_mul_of_pos_right _ (by omega)
    omega
  have k1 : (eqG p d q : Int) ∣ q := by
    refine Int.ofNat_dvd_left.2 (Nat.dvd_trans (Nat.gcd_dvd_left _ _) (Nat.gcd_dvd_left _ _))
  have k2 : (eqG p d q : Int) ∣ -2 * p := by
    refine Int.ofNat_dvd_left.2 (Nat.dvd_trans (Nat.gcd_dvd_left _ _) (Nat.gcd_dvd_right _ _))
  have k3 : (eqG p d q : Int) ∣ (p * p - d).tdiv q := Int.ofNat_dvd_left.2 (Nat.gcd_dvd_right _ _)
  have hG : eqG p d q = Nat.gcd (Nat.gcd q.natAbs (-2 * p).natAbs) ((p * p - d).tdiv q).natAbs := rfl
  generalize hE : eqM p d q = E
  have hEc : ∃ s : Int, (s = (eqG p d q : Int) ∨ s = -(eqG p d q : Int)) ∧ (s < 0 ↔ q < 0) ∧ E = (q.tdiv s, (-2 * p).tdiv s, ((p * p - d).tdiv q).tdiv s, 0) := by
    rw [← hE]
    unfold eqM
    rw [if_pos h]
    by_cases g : q < 0
    · rw [if_pos g]; exact ⟨_, .inr rfl, by omega, rfl⟩
    · rw [if_neg g]; exact ⟨_, .inl rfl, by omega, rfl⟩
  obtain ⟨s, hs1, hs2, rfl⟩ := hEc
  generalize (p * p - d).tdiv q = c at *
  have hsa : s.natAbs = eqG p d q := by rcases hs1 with rfl | rfl <;> omega
  have hs0 : s ≠ 0 := by omega
  have d1 : s ∣ q := by
    rcases hs1 with rfl | rfl
    · exact k1
    · exact Int.neg_dvd.2 k1
  have d2 : s ∣ -2 * p := by
    rcases hs1 with rfl | rfl
    · exact k2
    · exact Int.neg_dvd.2 k2
  have d3 : s ∣ c := by
    rcases hs1 with rfl | rfl
    · exact k3
    · exact Int.neg_dvd.2 k3
  obtain ⟨x1, x2, x3⟩ := quot_facts hs0 d1
  obtain ⟨y1, y2, y3⟩ := quot_facts hs0 d2
  obtain ⟨z1, z2, z3⟩ := quot_facts hs0 d3
  rw [hsa] at x2 y2 z2
  rw [← x2, ← y2, ← z2, Nat.gcd_mul_right, Nat.gcd_mul_right] at hG
  generalize q.tdiv s = X at *
  generalize (-2 * p).tdiv s = Y at *
  generalize c.tdiv s = Z at *
  have hXp : 1 ≤ X := by
    rcases Int.lt_or_le X 1 with e | e
    · exfalso
      have hX0 : X ≠ 0 := by rintro rfl; omega
      rcases Int.lt_or_le s 0 with e2 | e2
      · have := Int.mul_pos_of_neg_of_neg (show X < 0 by omega) e2
        have := hs2.1 e2
        omega
      · have := Int.mul_neg_of_neg_of_pos (show X < 0 by omega) (show 0 < s by omega)
        omega
    · exact e
  have hg1 : Nat.gcd (Nat.gcd X.natAbs Y.natAbs) Z.natAbs = 1 := by
    have e : 1 * eqG p d q = Nat.gcd (Nat.gcd X.natAbs Y.natAbs) Z.natAbs * eqG p d q := by rw [Nat.one_mul]; exact hG
    exact (Nat.eq_of_mul_eq_mul_right (by omega) e).symm
  have hY40 : -40 ≤ Y ∧ Y ≤ 40 := by omega
  have hZ2 : -2000 ≤ Z ∧ Z ≤ 2000 := by omega
  refine ⟨by rw [hE], by rw [hE]; exact ⟨hXp, by omega⟩, by rw [hE]; exact hY40, by rw [hE]; exact hZ2, ?_, ?_, by rw [hE]; exact hg1⟩
  · rw [hE]; simp only
    have e : (2 * X * p + Y * q) * s = 0 := by
      have : (2 * X * p + Y * q) * s = 2 * (X * s) * p + (Y * s) * q := by grind
      rw [this, x1, y1]; grind
    exact (Int.mul_eq_zero.1 e).resolve_right hs0
  · rw [hE]; simp only
    have e : (X * (p * p + d) + Y * p * q + Z * q * q) * s = 0 := by
      have : (X * (p * p + d) + Y * p * q + Z * q * q) * s = (X * s) * (p * p + d) + (Y * s) * p * q + (Z * s) * q * q := by grind
      rw [this, x1, y1, z1]
      have e2 : q * (p * p + d) + -2 * p * p * q + c * q * q = q * (p * p + d - 2 * (p * p) + c * q) := by grind
      rw [e2, hc]
      have : p * p + d - 2 * (p * p) + (p * p - d) = 0 := by omega
      rw [this, Int.mul_zero]
    exact (Int.mul_eq_zero.1 e).resolve_right hs0
end Go.Proofs.YtibbokllongomaaDoor
