/-
  Contracts of the functions on fractions: validity, lowest terms, comparisons, neighbours.
-/
import Derived.Test.YtlmmpeeacjbobaaBase
namespace Go.Proofs.Ytlmmpeeacjbobaa
open Go.RowKit

/-- The number num / den is a plain fraction. -/
def okF (n d : Int) : Bool := inB d 1 1000000000 && inB n (-1000000000) 1000000000 && (((Int.gcd n d : Nat) : Int) == 1)
theorem okF_iff {n d : Int} : okF n d = true ↔ (1 ≤ d ∧ d ≤ 1000000000) ∧ (-1000000000 ≤ n ∧ n ≤ 1000000000) ∧ Int.gcd n d = 1 := by
  simp only [okF, inB, and_assoc, Bool.and_eq_true, decide_eq_true_eq, beq_iff_eq]
  omega

set_option maxHeartbeats 400000 in
theorem validFraction_any (n d : Int) (r : Bool) (hr : okF n d = r) (w : World) :
    Calls Try.prog 82 #[.agg #[.int .i64 n, .int .i64 d]] w (Ret w (.bool r)) := by
  subst hr
  by_cases h1 : inB d 1 1000000000 = true
  · have hd := inB_iff.1 h1
    have H1 := Lib.hid h1
    by_cases h2 : inB n (-1000000000) 1000000000 = true
    · have hn := inB_iff.1 h2
      have e : okF n d = (((Int.gcd n d : Nat) : Int) == 1) := by simp [okF, h1, h2]
      rw [e]; clear e
      have H2 := Lib.hid h2
      clear h1 h2
      go_enter Try.func82, Try.ntmps82
      go_wp2_with fail
      apply Calls.mono
      · with_reducible exact within_any _ _ _ true H1.out _
      rintro _ w1 ⟨rfl, hb_w1⟩
      obtain ⟨hc_w1, hf_w1, hs_w1⟩ := bcell hb_w1
      try simp at hs_w1
      have hz_w1_w0 : w.heap.size < w1.heap.size := by omega
      have hy_w1_w0 : w.heap.size ≤ w1.heap.size := by omega
      have hx_w1_w0 : ∀ n : Nat, w.heap.size < w1.heap.size + n := by intro n; omega
      have hv_w1_w0 : ∀ n : Nat, w.heap.size ≤ w1.heap.size + n := by intro n; omega
      go_wp2_with fail
      apply Calls.mono
      · with_reducible exact within_any _ _ _ true H2.out _
      rintro _ w2 ⟨rfl, hb_w2⟩
      obtain ⟨hc_w2, hf_w2, hs_w2⟩ := bcell hb_w2
      try simp at hs_w2
      have hz_w2_w0 : w.heap.size < w2.heap.size := by omega
      have hy_w2_w0 : w.heap.size ≤ w2.heap.size := by omega
      have hx_w2_w0 : ∀ n : Nat, w.heap.size < w2.heap.size + n := by intro n; omega
      have hv_w2_w0 : ∀ n : Nat, w.heap.size ≤ w2.heap.size + n := by intro n; omega
      go_wp2_with fail
      apply Calls.mono
      · with_reducible exact gcd_any _ _ (by omega) (by omega) (by omega) (by omega) _
      rintro _ w3 ⟨rfl, hb_w3⟩
      obtain ⟨hc_w3, hf_w3, hs_w3⟩ := bcell hb_w3
      try simp at hs_w3
      have hz_w3_w0 : w.heap.size < w3.heap.size := by omega
      have hy_w3_w0 : w.heap.size ≤ w3.heap.size := by omega
      have hx_w3_w0 : ∀ n : Nat, w.heap.size < w3.heap.size + n := by intro n; omega
      have hv_w3_w0 : ∀ n : Nat, w.heap.size ≤ w3.heap.size + n := by intro n; omega
      go_wp2
      go_ret
      refine ⟨by first | rfl | (simp), ?_⟩
      repeat' (first | (with_reducible exact Below.refl _ _) | (with_reducible assumption) | (with_reducible refine Below.alloc ?_ ?_ _) | (with_reducible refine Below.drew ?_) | (with_reducible refine bdrewN ?_ _) | (with_reducible refine Below.setCell ?_ ?_ _) | (with_reducible refine bthen ?_ (by assumption) ?_) | go_size)
    · have e : okF n d = false := by simp [okF, h2]
      rw [e]; clear e
      have H2 := Lib.hid (by simpa using h2 : inB n (-1000000000) 1000000000 = false)
      clear h1 h2
      go_enter Try.func82, Try.ntmps82
      go_wp2_with fail
      apply Calls.mono
      · with_reducible exact within_any _ _ _ true H1.out _
      rintro _ w1 ⟨rfl, hb_w1⟩
      obtain ⟨hc_w1, hf_w1, hs_w1⟩ := bcell hb_w1
      try simp at hs_w1
      have hz_w1_w0 : w.heap.size < w1.heap.size := by omega
      have hy_w1_w0 : w.heap.size ≤ w1.heap.size := by omega
      have hx_w1_w0 : ∀ n : Nat, w.heap.size < w1.heap.size + n := by intro n; omega
      have hv_w1_w0 : ∀ n : Nat, w.heap.size ≤ w1.heap.size + n := by intro n; omega
      go_wp2_with fail
      apply Calls.mono
      · with_reducible exact within_any _ _ _ false H2.out _
      rintro _ w2 ⟨rfl, hb_w2⟩
      obtain ⟨hc_w2, hf_w2, hs_w2⟩ := bcell hb_w2
      try simp at hs_w2
      have hz_w2_w0 : w.heap.size < w2.heap.size := by omega
      have hy_w2_w0 : w.heap.size ≤ w2.heap.size := by omega
      have hx_w2_w0 : ∀ n : Nat, w.heap.size < w2.heap.size + n := by intro n; omega
      have hv_w2_w0 : ∀ n : Nat, w.heap.size ≤ w2.heap.size + n := by intro n; omega
      go_wp2
      go_ret
      refine ⟨by first | rfl | (simp), ?_⟩
      repeat' (first | (with_reducible exact Below.refl _ _) | (with_reducible assumption) | (with_reducible refine Below.alloc ?_ ?_ _) | (with_reducible refine Below.drew ?_) | (with_reducible refine bdrewN ?_ _) | (with_reducible refine Below.setCell ?_ ?_ _) | (with_reducible refine bthen ?_ (by assumption) ?_) | go_size)
  · have e : okF n d = false := by simp [okF, h1]
    rw [e]; clear e
    have H1 := Lib.hid (by simpa using h1 : inB d 1 1000000000 = false)
    clear h1
    go_enter Try.func82, Try.ntmps82
    go_wp2_with fail
    apply Calls.mono
    · with_reducible exact within_any _ _ _ false H1.out _
    rintro _ w1 ⟨rfl, hb_w1⟩
    obtain ⟨hc_w1, hf_w1, hs_w1⟩ := bcell hb_w1
    try simp at hs_w1
    have hz_w1_w0 : w.heap.size < w1.heap.size := by omega
    have hy_w1_w0 : w.heap.size ≤ w1.heap.size := by omega
    have hx_w1_w0 : ∀ n : Nat, w.heap.size < w1.heap.size + n := by intro n; omega
    have hv_w1_w0 : ∀ n : Nat, w.heap.size ≤ w1.heap.size + n := by intro n; omega
    go_wp2
    go_ret
    refine ⟨by first | rfl | (simp), ?_⟩
    repeat' (first | (with_reducible exact Below.refl _ _) | (with_reducible assumption) | (with_reducible refine Below.alloc ?_ ?_ _) | (with_reducible refine Below.drew ?_) | (with_reducible refine bdrewN ?_ _) | (with_reducible refine Below.setCell ?_ ?_ _) | (with_reducible refine bthen ?_ (by assumption) ?_) | go_size)
set_option maxHeartbeats 400000 in
theorem l02Ok_any (n d : Int) (r : Bool) (hr : okF n d = r) (w : World) :
    Calls Try.prog 75 #[.agg #[.int .i64 n, .int .i64 d]] w (Ret w (.bool r)) := by
  subst hr
  by_cases h2 : inB n (-1000000000) 1000000000 = true
  · have hn := inB_iff.1 h2
    have H2 := Lib.hid h2
    by_cases h1 : inB d 1 1000000000 = true
    · have hd := inB_iff.1 h1
      have e : okF n d = (((Int.gcd n d : Nat) : Int) == 1) := by simp [okF, h1, h2]
      rw [e]; clear e
      have H1 := Lib.hid h1
      clear h1 h2
      obtain ⟨d', rfl⟩ := Int.eq_ofNat_of_zero_le (show 0 ≤ d by omega)
      have e2 : Int.gcd n (d' : Int) = Nat.gcd n.natAbs d' := rfl
      rw [e2]; clear e2
      go_enter Try.func75, Try.ntmps75
      go_wp2_with fail
      refine wp_region_calm (by kernel_rfl) (by kernel_rfl) ?_
      repeat (go_big_quiet_step ((first | with_reducible exact calm (l00In_any _ _ _ true H2.out _) | with_reducible exact calm (l00In_any _ _ _ true H1.out _) | with_reducible exact calm (l02Size_any _ (by omega) (by omega) _) | with_reducible exact calm (l02Gcd_any _ _ (by omega) (by omega) _))))
      refine wpQuiet_nil ?_
      intro w1 hb_w1
      obtain ⟨hc_w1, hf_w1, hs_w1⟩ := bcell hb_w1
      try simp at hs_w1
      have hz_w1_w0 : w.heap.size < w1.heap.size := by omega
      have hy_w1_w0 : w.heap.size ≤ w1.heap.size := by omega
      have hx_w1_w0 : ∀ n : Nat, w.heap.size < w1.heap.size + n := by intro n; omega
      have hv_w1_w0 : ∀ n : Nat, w.heap.size ≤ w1.heap.size + n := by intro n; omega
      go_wp2
      go_ret
      refine ⟨by first | rfl | (simp), ?_⟩
      repeat' (first | (with_reducible exact Below.refl _ _) | (with_reducible assumption) | (with_reducible refine Below.alloc ?_ ?_ _) | (with_reducible refine Below.drew ?_) | (with_reducible refine bdrewN ?_ _) | (with_reducible refine Below.setCell ?_ ?_ _) | (with_reducible refine bthen ?_ (by assumption) ?_) | go_size)
    · have e : okF n d = false := by simp [okF, h1]
      rw [e]; clear e
      have H1 := Lib.hid (by simpa using h1 : inB d 1 1000000000 = false)
      clear h1 h2
      go_enter Try.func75, Try.ntmps75
      go_wp2_with fail
      refine wp_region_calm (by kernel_rfl) (by kernel_rfl) ?_
      repeat (go_big_quiet_step ((first | with_reducible exact calm (l00In_any _ _ _ true H2.out _) | with_reducible exact calm (l00In_any _ _ _ false H1.out _))))
      refine wpQuiet_nil ?_
      intro w1 hb_w1
      obtain ⟨hc_w1, hf_w1, hs_w1⟩ := bcell hb_w1
      try simp at hs_w1
      have hz_w1_w0 : w.heap.size < w1.heap.size := by omega
      have hy_w1_w0 : w.heap.size ≤ w1.heap.size := by omega
      have hx_w1_w0 : ∀ n : Nat, w.heap.size < w1.heap.size + n := by intro n; omega
      have hv_w1_w0 : ∀ n : Nat, w.heap.size ≤ w1.heap.size + n := by intro n; omega
      go_wp2
      go_ret
      refine ⟨by first | rfl | (simp), ?_⟩
      repeat' (first | (with_reducible exact Below.refl _ _) | (with_reducible assumption) | (with_reducible refine Below.alloc ?_ ?_ _) | (with_reducible refine Below.drew ?_) | (with_reducible refine bdrewN ?_ _) | (with_reducible refine Below.setCell ?_ ?_ _) | (with_reducible refine bthen ?_ (by assumption) ?_) | go_size)
  · have e : okF n d = false := by simp [okF, h2]
    rw [e]; clear e
    have H2 := Lib.hid (by simpa using h2 : inB n (-1000000000) 1000000000 = false)
    clear h2
    go_enter Try.func75, Try.ntmps75
    go_wp2_with fail
    refine wp_region_calm (by kernel_rfl) (by kernel_rfl) ?_
    repeat (go_big_quiet_step ((with_reducible exact calm (l00In_any _ _ _ false H2.out _))))
    refine wpQuiet_nil ?_
    intro w1 hb_w1
    obtain ⟨hc_w1, hf_w1, hs_w1⟩ := bcell hb_w1
    try simp at hs_w1
    have hz_w1_w0 : w.heap.size < w1.heap.size := by omega
    have hy_w1_w0 : w.heap.size ≤ w1.heap.size := by omega
    have hx_w1_w0 : ∀ n : Nat, w.heap.size < w1.heap.size + n := by intro n; omega
    have hv_w1_w0 : ∀ n : Nat, w.heap.size ≤ w1.heap.size + n := by intro n; omega
    go_wp2
    go_ret
    refine ⟨by first | rfl | (simp), ?_⟩
    repeat' (first | (with_reducible exact Below.refl _ _) | (with_reducible assumption) | (with_reducible refine Below.alloc ?_ ?_ _) | (with_reducible refine Below.drew ?_) | (with_reducible refine bdrewN ?_ _) | (with_reducible refine Below.setCell ?_ ?_ _) | (with_reducible refine bthen ?_ (by assumption) ?_) | go_size)
theorem toFraction_any (n d : Int) (w : World) :
    Calls Try.prog 9 #[.agg #[.int .i64 n, .int .i64 d]] w (Ret w (.agg #[.int .i64 n, .int .i64 d])) := by
  go_enter Try.func9, Try.ntmps9
  go_wp2
  refine bodyPost_ret (by simp [results, Try.results9, go_sem, *]; try rfl) rfl ?_
  refine ⟨by first | rfl | simp, ?_⟩
  repeat' (first | (with_reducible exact Below.refl _ _) | (with_reducible assumption) | (with_reducible refine Below.alloc ?_ ?_ _) | (with_reducible refine Below.drew ?_) | (with_reducible refine bdrewN ?_ _) | (with_reducible refine Below.setCell ?_ ?_ _) | (with_reducible refine bthen ?_ (by assumption) ?_) | go_size)
theorem eqFraction_any (a b c d : Int) (r : Bool) (hr : (a == c && b == d) = r) (w : World) :
    Calls Try.prog 11 #[.agg #[.int .i64 a, .int .i64 b], .agg #[.int .i64 c, .int .i64 d]] w (Ret w (.bool r)) := by
  subst hr
  by_cases h1 : a = c
  · subst h1
    by_cases h2 : b = d
    · subst h2
      simp only [beq_self_eq_true, Bool.and_true]
      go_enter Try.func11, Try.ntmps11
      go_wp2
      go_ret
      refine ⟨by first | rfl | (simp), ?_⟩
      repeat' (first | (with_reducible exact Below.refl _ _) | (with_reducible assumption) | (with_reducible refine Below.alloc ?_ ?_ _) | (with_reducible refine Below.drew ?_) | (with_reducible refine bdrewN ?_ _) | (with_reducible refine Below.setCell ?_ ?_ _) | (with_reducible refine bthen ?_ (by assumption) ?_) | go_size)
    · have e2 : (b == d) = false := by simp [h2]
      have e3 : (b != d) = true := by simp [h2]
      rw [e2, Bool.and_false]
      clear e2 h2
      go_enter Try.func11, Try.ntmps11
      go_wp2
      go_ret
      refine ⟨by first | rfl | (simp), ?_⟩
      repeat' (first | (with_reducible exact Below.refl _ _) | (with_reducible assumption) | (with_reducible refine Below.alloc ?_ ?_ _) | (with_reducible refine Below.drew ?_) | (with_reducible refine bdrewN ?_ _) | (with_reducible refine Below.setCell ?_ ?_ _) | (with_reducible refine bthen ?_ (by assumption) ?_) | go_size)
  · have e2 : (a == c) = false := by simp [h1]
    have e3 : (a != c) = true := by simp [h1]
    rw [e2, Bool.false_and]
    clear e2 h1
    go_enter Try.func11, Try.ntmps11
    go_wp2
    go_ret
    refine ⟨by first | rfl | (simp), ?_⟩
    repeat' (first | (with_reducible exact Below.refl _ _) | (with_reducible assumption) | (with_reducible refine Below.alloc ?_ ?_ _) | (with_reducible refine Below.drew ?_) | (with_reducible refine bdrewN ?_ _) | (with_reducible refine Below.setCell ?_ ?_ _) | (with_reducible refine bthen ?_ (by assumption) ?_) | go_size)
theorem mul_bd {a b A B : Int} (h1 : -A ≤ a) (h2 : a ≤ A) (h3 : -B ≤ b) (h4 : b ≤ B) : -(A * B) ≤ a * b ∧ a * b ≤ A * B := by
  have e : (a * b).natAbs ≤ A.natAbs * B.natAbs := by
    rw [Int.natAbs_mul]
    exact Nat.mul_le_mul (by omega) (by omega)
  have e2 : ((A.natAbs * B.natAbs : Nat) : Int) = A * B := by
    rw [Int.natCast_mul, Int.natAbs_of_nonneg (by omega), Int.natAbs_of_nonneg (by omega)]
  omega

/-- num / den in lowest terms: numerator, denominator, code. -/
def plN (n d : Int) : Int := if d < 0 then -(n / ((Int.gcd n d : Nat) : Int)) else n / ((Int.gcd n d : Nat) : Int)
def plD (n d : Int) : Int := if d < 0 then -(d / ((Int.gcd n d : Nat) : Int)) else d / ((Int.gcd n d : Nat) : Int)
def plain (n d : Int) : Int × Int × Int := if okF (plN n d) (plD n d) then (plN n d, plD n d, 0) else (0, 0, 5)
theorem gcd_pos_of {n d : Int} (hd : d ≠ 0) : 1 ≤ ((Int.gcd n d : Nat) : Int) := by
  have : 0 < Int.gcd n d := Int.gcd_pos_of_ne_zero_right n hd
  omega
theorem gcd_le_of {n d : Int} (hd : d ≠ 0) : ((Int.gcd n d : Nat) : Int) ≤ d.natAbs := by
  have : Int.gcd n d ≤ d.natAbs := Nat.le_of_dvd (by omega) (Nat.gcd_dvd_right _ _)
  omega
theorem div_gcd_bd {n g : Int} (hg : 1 ≤ g) (h : g ∣ n) : n.tdiv g = n / g ∧ n.tdiv (-g) = -(n / g) ∧ -n.natAbs ≤ n / g ∧ n / g ≤ n.natAbs := by
  obtain ⟨k, rfl⟩ := h
  have e1 : g * k / g = k := Int.mul_ediv_cancel_left _ (by omega)
  have e2 : (g * k).tdiv g = k := Int.mul_tdiv_cancel_left _ (by omega)
  have e3 : (g * k).tdiv (-g) = -k := by rw [Int.tdiv_neg, e2]
  have e4 : k.natAbs ≤ (g * k).natAbs := by
    rw [Int.natAbs_mul]
    exact Nat.le_mul_of_pos_left _ (by omega)
  rw [e1, e2, e3]
  omega

set_option maxHeartbeats 1000000 in
theorem plainOf_any (n d : Int) (h1 : -4000000000000000000 ≤ n) (h2 : n ≤ 4000000000000000000) (h3 : -4000000000000000000 ≤ d) (h4 : d ≤ 4000000000000000000) (hd : d ≠ 0) (w : World) :
    Calls Try.prog 73 #[.int .i64 n, .int .i64 d] w (Ret w (.tuple #[.agg #[.int .i64 (plain n d).1, .int .i64 (plain n d).2.1], .int .i64 (plain n d).2.2])) := by
  have hg := gcd_pos_of (n := n) hd
  have hg2 := gcd_le_of (n := n) hd
  obtain ⟨a1, a2, a3, a4⟩ := div_gcd_bd hg (Int.gcd_dvd_left n d)
  obtain ⟨b1, b2, b3, b4⟩ := div_gcd_bd hg (Int.gcd_dvd_right n d)
  generalize hG : ((Int.gcd n d : Nat) : Int) = g at *
  have hg0 : -g ≠ 0 := by omega
  have hg1 : -g ≤ -1 := by omega
  have hg2' : g ≠ 0 := by omega
  by_cases hneg : d < 0
  · have e1 : plN n d = -(n / g) := by unfold plN; rw [if_pos hneg, hG]
    have e2 : plD n d = -(d / g) := by unfold plD; rw [if_pos hneg, hG]
    cases hok : okF (-(n / g)) (-(d / g))
    · have e3 : plain n d = (0, 0, 5) := by unfold plain; rw [e1, e2, hok]; rfl
      rw [e3]
      have HG := Lib.hid hG
      have HOK := Lib.hid hok
      clear hG e1 e2 e3 hok hd a1 b1
      go_enter Try.func73, Try.ntmps73
      go_wp2_with fail
      apply Calls.mono
      · exact gcd_any n d (by omega) (by omega) (by omega) (by omega) _
      rw [HG.out]
      rintro _ w1 ⟨rfl, hb_w1⟩
      obtain ⟨hc_w1, hf_w1, hs_w1⟩ := bcell hb_w1
      try simp at hs_w1
      have hz_w1_w0 : w.heap.size < w1.heap.size := by omega
      have hy_w1_w0 : w.heap.size ≤ w1.heap.size := by omega
      have hx_w1_w0 : ∀ n : Nat, w.heap.size < w1.heap.size + n := by intro n; omega
      have hv_w1_w0 : ∀ n : Nat, w.heap.size ≤ w1.heap.size + n := by intro n; omega
      go_wp2_with fail
      go_region
      go_wp2_with fail
      apply Calls.mono
      · with_reducible exact validFraction_any _ _ false HOK.out _
      rintro _ w2 ⟨rfl, hb_w2⟩
      obtain ⟨hc_w2, hf_w2, hs_w2⟩ := bcell hb_w2
      try simp at hs_w2
      have hz_w2_w0 : w.heap.size < w2.heap.size := by omega
      have hy_w2_w0 : w.heap.size ≤ w2.heap.size := by omega
      have hx_w2_w0 : ∀ n : Nat, w.heap.size < w2.heap.size + n := by intro n; omega
      have hv_w2_w0 : ∀ n : Nat, w.heap.size ≤ w2.heap.size + n := by intro n; omega
      have hz_w2_w10 : w1.heap.size < w2.heap.size := by omega
      have hy_w2_w10 : w1.heap.size ≤ w2.heap.size := by omega
      have hx_w2_w10 : ∀ n : Nat, w1.heap.size < w2.heap.size + n := by intro n; omega
      have hv_w2_w10 : ∀ n : Nat, w1.heap.size ≤ w2.heap.size + n := by intro n; omega
      go_wp2
      refine bodyPost_ret (by simp [results, Try.results73, go_sem, *]; try rfl) rfl ?_
      refine ⟨by first | rfl | simp, ?_⟩
      repeat' (first | (with_reducible exact Below.refl _ _) | (with_reducible assumption) | (with_reducible refine Below.alloc ?_ ?_ _) | (with_reducible refine Below.drew ?_) | (with_reducible refine bdrewN ?_ _) | (with_reducible refine Below.setCell ?_ ?_ _) | (with_reducible refine bthen ?_ (by assumption) ?_) | go_size)
    · have e3 : plain n d = (-(n / g), -(d / g), 0) := by unfold plain; rw [e1, e2, hok]; rfl
      rw [e3]
      have HG := Lib.hid hG
      have HOK := Lib.hid hok
      clear hG e1 e2 e3 hok hd a1 b1
      go_enter Try.func73, Try.ntmps73
      go_wp2_with fail
      apply Calls.mono
      · exact gcd_any n d (by omega) (by omega) (by omega) (by omega) _
      rw [HG.out]
      rintro _ w1 ⟨rfl, hb_w1⟩
      obtain ⟨hc_w1, hf_w1, hs_w1⟩ := bcell hb_w1
      try simp at hs_w1
      have hz_w1_w0 : w.heap.size < w1.heap.size := by omega
      have hy_w1_w0 : w.heap.size ≤ w1.heap.size := by omega
      have hx_w1_w0 : ∀ n : Nat, w.heap.size < w1.heap.size + n := by intro n; omega
      have hv_w1_w0 : ∀ n : Nat, w.heap.size ≤ w1.heap.size + n := by intro n; omega
      go_wp2_with fail
      go_region
      go_wp2_with fail
      apply Calls.mono
      · with_reducible exact validFraction_any _ _ true HOK.out _
      rintro _ w2 ⟨rfl, hb_w2⟩
      obtain ⟨hc_w2, hf_w2, hs_w2⟩ := bcell hb_w2
      try simp at hs_w2
      have hz_w2_w0 : w.heap.size < w2.heap.size := by omega
      have hy_w2_w0 : w.heap.size ≤ w2.heap.size := by omega
      have hx_w2_w0 : ∀ n : Nat, w.heap.size < w2.heap.size + n := by intro n; omega
      have hv_w2_w0 : ∀ n : Nat, w.heap.size ≤ w2.heap.size + n := by intro n; omega
      have hz_w2_w10 : w1.heap.size < w2.heap.size := by omega
      have hy_w2_w10 : w1.heap.size ≤ w2.heap.size := by omega
      have hx_w2_w10 : ∀ n : Nat, w1.heap.size < w2.heap.size + n := by intro n; omega
      have hv_w2_w10 : ∀ n : Nat, w1.heap.size ≤ w2.heap.size + n := by intro n; omega
      go_wp2
      refine bodyPost_ret (by simp [results, Try.results73, go_sem, *]; try rfl) rfl ?_
      refine ⟨by first | rfl | simp, ?_⟩
      repeat' (first | (with_reducible exact Below.refl _ _) | (with_reducible assumption) | (with_reducible refine Below.alloc ?_ ?_ _) | (with_reducible refine Below.drew ?_) | (with_reducible refine bdrewN ?_ _) | (with_reducible refine Below.setCell ?_ ?_ _) | (with_reducible refine bthen ?_ (by assumption) ?_) | go_size)
  · have e1 : plN n d = n / g := by unfold plN; rw [if_neg hneg, hG]
    have e2 : plD n d = d / g := by unfold plD; rw [if_neg hneg, hG]
    cases hok : okF (n / g) (d / g)
    · have e3 : plain n d = (0, 0, 5) := by unfold plain; rw [e1, e2, hok]; rfl
      rw [e3]
      have HG := Lib.hid hG
      have HOK := Lib.hid hok
      clear hG e1 e2 e3 hok hd a2 b2
      go_enter Try.func73, Try.ntmps73
      go_wp2_with fail
      apply Calls.mono
      · exact gcd_any n d (by omega) (by omega) (by omega) (by omega) _
      rw [HG.out]
      rintro _ w1 ⟨rfl, hb_w1⟩
      obtain ⟨hc_w1, hf_w1, hs_w1⟩ := bcell hb_w1
      try simp at hs_w1
      have hz_w1_w0 : w.heap.size < w1.heap.size := by omega
      have hy_w1_w0 : w.heap.size ≤ w1.heap.size := by omega
      have hx_w1_w0 : ∀ n : Nat, w.heap.size < w1.heap.size + n := by intro n; omega
      have hv_w1_w0 : ∀ n : Nat, w.heap.size ≤ w1.heap.size + n := by intro n; omega
      go_wp2_with fail
      go_region
      go_wp2_with fail
      apply Calls.mono
      · with_reducible exact validFraction_any _ _ false HOK.out _
      rintro _ w2 ⟨rfl, hb_w2⟩
      obtain ⟨hc_w2, hf_w2, hs_w2⟩ := bcell hb_w2
      try simp at hs_w2
      have hz_w2_w0 : w.heap.size < w2.heap.size := by omega
      have hy_w2_w0 : w.heap.size ≤ w2.heap.size := by omega
      have hx_w2_w0 : ∀ n : Nat, w.heap.size < w2.heap.size + n := by intro n; omega
      have hv_w2_w0 : ∀ n : Nat, w.heap.size ≤ w2.heap.size + n := by intro n; omega
      have hz_w2_w10 : w1.heap.size < w2.heap.size := by omega
      have hy_w2_w10 : w1.heap.size ≤ w2.heap.size := by omega
      have hx_w2_w10 : ∀ n : Nat, w1.heap.size < w2.heap.size + n := by intro n; omega
      have hv_w2_w10 : ∀ n : Nat, w1.heap.size ≤ w2.heap.size + n := by intro n; omega
      go_wp2
      refine bodyPost_ret (by simp [results, Try.results73, go_sem, *]; try rfl) rfl ?_
      refine ⟨by first | rfl | simp, ?_⟩
      repeat' (first | (with_reducible exact Below.refl _ _) | (with_reducible assumption) | (with_reducible refine Below.alloc ?_ ?_ _) | (with_reducible refine Below.drew ?_) | (with_reducible refine bdrewN ?_ _) | (with_reducible refine Below.setCell ?_ ?_ _) | (with_reducible refine bthen ?_ (by assumption) ?_) | go_size)
    · have e3 : plain n d = (n / g, d / g, 0) := by unfold plain; rw [e1, e2, hok]; rfl
      rw [e3]
      have HG := Lib.hid hG
      have HOK := Lib.hid hok
      clear hG e1 e2 e3 hok hd a2 b2
      go_enter Try.func73, Try.ntmps73
      go_wp2_with fail
      apply Calls.mono
      · exact gcd_any n d (by omega) (by omega) (by omega) (by omega) _
      rw [HG.out]
      rintro _ w1 ⟨rfl, hb_w1⟩
      obtain ⟨hc_w1, hf_w1, hs_w1⟩ := bcell hb_w1
      try simp at hs_w1
      have hz_w1_w0 : w.heap.size < w1.heap.size := by omega
      have hy_w1_w0 : w.heap.size ≤ w1.heap.size := by omega
      have hx_w1_w0 : ∀ n : Nat, w.heap.size < w1.heap.size + n := by intro n; omega
      have hv_w1_w0 : ∀ n : Nat, w.heap.size ≤ w1.heap.size + n := by intro n; omega
      go_wp2_with fail
      go_region
      go_wp2_with fail
      apply Calls.mono
      · with_reducible exact validFraction_any _ _ true HOK.out _
      rintro _ w2 ⟨rfl, hb_w2⟩
      obtain ⟨hc_w2, hf_w2, hs_w2⟩ := bcell hb_w2
      try simp at hs_w2
      have hz_w2_w0 : w.heap.size < w2.heap.size := by omega
      have hy_w2_w0 : w.heap.size ≤ w2.heap.size := by omega
      have hx_w2_w0 : ∀ n : Nat, w.heap.size < w2.heap.size + n := by intro n; omega
      have hv_w2_w0 : ∀ n : Nat, w.heap.size ≤ w2.heap.size + n := by intro n; omega
      have hz_w2_w10 : w1.heap.size < w2.heap.size := by omega
      have hy_w2_w10 : w1.heap.size ≤ w2.heap.size := by omega
      have hx_w2_w10 : ∀ n : Nat, w1.heap.size < w2.heap.size + n := by intro n; omega
      have hv_w2_w10 : ∀ n : Nat, w1.heap.size ≤ w2.heap.size + n := by intro n; omega
      go_wp2
      refine bodyPost_ret (by simp [results, Try.results73, go_sem, *]; try rfl) rfl ?_
      refine ⟨by first | rfl | simp, ?_⟩
      repeat' (first | (with_reducible exact Below.refl _ _) | (with_reducible assumption) | (with_reducible refine Below.alloc ?_ ?_ _) | (with_reducible refine Below.drew ?_) | (with_reducible refine bdrewN ?_ _) | (with_reducible refine Below.setCell ?_ ?_ _) | (with_reducible refine bthen ?_ (by assumption) ?_) | go_size)
end Go.Proofs.Ytlmmpeeacjbobaa
