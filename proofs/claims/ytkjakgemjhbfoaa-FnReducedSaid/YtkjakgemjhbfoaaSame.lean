/-
  Surds that are equal as numbers: both packages' tests.
-/
import Derived.Test.YtkjakgemjhbfoaaWk3
namespace Go.Proofs.Ytkjakgemjhbfoaa
open Go.RowKit

def sgS (q : Int) : Int := if q < 0 then -1 else 1
def eqN (d1 : Int) (x : Int × Int) (d2 : Int) (y : Int × Int) : Bool := sgS x.2 == sgS y.2 && (x.1 * y.2 == y.1 * x.2 && d1 * y.2 * y.2 == d2 * x.2 * x.2)
theorem mul_in {a b A B : Int} (h1 : -A ≤ a) (h2 : a ≤ A) (h3 : -B ≤ b) (h4 : b ≤ B) : -(A * B) ≤ a * b ∧ a * b ≤ A * B := by
  have e : (a * b).natAbs ≤ (A * B).natAbs := by
    rw [Int.natAbs_mul, Int.natAbs_mul]
    exact Nat.mul_le_mul (by omega) (by omega)
  have h : 0 ≤ A * B := Int.mul_nonneg (by omega) (by omega)
  omega
theorem same_facts {d1 p1 q1 d2 p2 q2 : Int} (h1 : okS p1 d1 q1 = true) (h2 : okS p2 d2 q2 = true) :
    ((-1000000000000 ≤ p1 * q2 ∧ p1 * q2 ≤ 1000000000000) ∧ (-1000000000000 ≤ p2 * q1 ∧ p2 * q1 ≤ 1000000000000)) ∧ ((-1000000000000 ≤ d1 * q2 ∧ d1 * q2 ≤ 1000000000000) ∧ (-1000000000000 ≤ d2 * q1 ∧ d2 * q1 ≤ 1000000000000)) ∧
      ((-1000000000000000000 ≤ d1 * q2 * q2 ∧ d1 * q2 * q2 ≤ 1000000000000000000) ∧ (-1000000000000000000 ≤ d2 * q1 * q1 ∧ d2 * q1 * q1 ≤ 1000000000000000000)) := by
  obtain ⟨a1, a2, a3, a4, a5, a6, _⟩ := okS_bd h1
  obtain ⟨b1, b2, b3, b4, b5, b6, _⟩ := okS_bd h2
  have e1 := mul_in (A := 1000000) (B := 1000000) a3 a4 b5 b6
  have e2 := mul_in (A := 1000000) (B := 1000000) b3 b4 a5 a6
  have e3 := mul_in (a := d1) (A := 1000000) (B := 1000000) (by omega) a2 b5 b6
  have e4 := mul_in (a := d2) (A := 1000000) (B := 1000000) (by omega) b2 a5 a6
  have e5 := mul_in (a := d1 * q2) (A := 1000000000000) (B := 1000000) (by omega) (by omega) b5 b6
  have e6 := mul_in (a := d2 * q1) (A := 1000000000000) (B := 1000000) (by omega) (by omega) a5 a6
  omega
theorem sign_any (q : Int) (h : q ≠ 0) (w : World) : Calls Try.prog 98 #[.int .i64 q] w (Ret w (.int .i64 (sgS q))) := by
  by_cases h1 : q < 0
  · have e : sgS q = -1 := if_pos h1
    rw [e]; clear e
    go_enter Try.func98, Try.ntmps98
    go_wp2
    go_ret
    refine ⟨by first | rfl | (simp), ?_⟩
    repeat' (first | (with_reducible exact Below.refl _ _) | (with_reducible assumption) | (with_reducible refine Below.alloc ?_ ?_ _) | (with_reducible refine Below.drew ?_) | (with_reducible refine bdrewN ?_ _) | (with_reducible refine Below.setCell ?_ ?_ _) | (with_reducible refine bthen ?_ (by assumption) ?_) | go_size)
  · have e : sgS q = 1 := if_neg h1
    have h2 : 0 < q := by omega
    rw [e]; clear e
    go_enter Try.func98, Try.ntmps98
    go_wp2
    go_ret
    refine ⟨by first | rfl | (simp), ?_⟩
    repeat' (first | (with_reducible exact Below.refl _ _) | (with_reducible assumption) | (with_reducible refine Below.alloc ?_ ?_ _) | (with_reducible refine Below.drew ?_) | (with_reducible refine bdrewN ?_ _) | (with_reducible refine Below.setCell ?_ ?_ _) | (with_reducible refine bthen ?_ (by assumption) ?_) | go_size)
set_option maxRecDepth 100000 in
set_option maxHeartbeats 4000000 in
theorem sameNumber_any (d1 p1 q1 d2 p2 q2 : Int) (h1 : okS p1 d1 q1 = true) (h2 : okS p2 d2 q2 = true) (r : Bool) (hr : eqN d1 (p1, q1) d2 (p2, q2) = r) (w : World) :
    Calls Try.prog 70 #[.agg #[.int .i64 p1, .int .i64 d1, .int .i64 q1], .agg #[.int .i64 p2, .int .i64 d2, .int .i64 q2]] w (Ret w (.bool r)) := by
  obtain ⟨⟨⟨b1, b2⟩, b3, b4⟩, ⟨⟨b5, b6⟩, b7, b8⟩, ⟨b9, b10⟩, b11, b12⟩ := same_facts h1 h2
  obtain ⟨_, _, _, _, _, _, n1, _⟩ := okS_bd h1
  obtain ⟨_, _, _, _, _, _, n2, _⟩ := okS_bd h2
  have k1 := fun w => sign_any q1 n1 w
  have k2 := fun w => sign_any q2 n2 w
  simp only [eqN] at hr
  clear h1 h2 n1 n2
  cases hs : (sgS q1 == sgS q2)
  · obtain rfl : false = r := by rw [← hr, hs]; rfl
    generalize sgS q1 = s1 at *
    generalize sgS q2 = s2 at *
    clear hr
    go_enter Try.func70, Try.ntmps70
    go_wp2_with fail
    refine wp_region_calm (by kernel_rfl) (by kernel_rfl) ?_
    repeat (go_big_quiet_step ((first | (with_reducible exact calm (k1 _)) | (with_reducible exact calm (k2 _)))))
    refine wpQuiet_nil ?_
    intro w1 hb_w1
    obtain ⟨hc_w1, hf_w1, hs_w1⟩ := bcell hb_w1
    try simp at hs_w1
    have hz_w1_w0 : w.heap.size < w1.heap.size := by omega
    have hy_w1_w0 : w.heap.size ≤ w1.heap.size := by omega
    have hx_w1_w0 : ∀ n : Nat, w.heap.size < w1.heap.size + n := by intro n; omega
    have hv_w1_w0 : ∀ n : Nat, w.heap.size ≤ w1.heap.size + n := by intro n; omega
    have hz_w1_w1 : w.heap.size + 1 < w1.heap.size := by omega
    have hy_w1_w1 : w.heap.size + 1 ≤ w1.heap.size := by omega
    have hx_w1_w1 : ∀ n : Nat, w.heap.size + 1 < w1.heap.size + n := by intro n; omega
    have hv_w1_w1 : ∀ n : Nat, w.heap.size + 1 ≤ w1.heap.size + n := by intro n; omega
    go_wp2
    go_ret
    refine ⟨by first | rfl | (simp), ?_⟩
    repeat' (first | (with_reducible exact Below.refl _ _) | (with_reducible assumption) | (with_reducible refine Below.alloc ?_ ?_ _) | (with_reducible refine Below.drew ?_) | (with_reducible refine bdrewN ?_ _) | (with_reducible refine Below.setCell ?_ ?_ _) | (with_reducible refine bthen ?_ (by assumption) ?_) | go_size)
  · rw [hs, Bool.true_and] at hr
    generalize sgS q1 = s1 at *
    generalize sgS q2 = s2 at *
    cases hp : (p1 * q2 == p2 * q1)
    · obtain rfl : false = r := by rw [← hr, hp]; rfl
      clear hr
      go_enter Try.func70, Try.ntmps70
      go_wp2_with fail
      refine wp_region_calm (by kernel_rfl) (by kernel_rfl) ?_
      repeat (go_big_quiet_step ((first | (with_reducible exact calm (k1 _)) | (with_reducible exact calm (k2 _)))))
      refine wpQuiet_nil ?_
      intro w1 hb_w1
      obtain ⟨hc_w1, hf_w1, hs_w1⟩ := bcell hb_w1
      try simp at hs_w1
      have hz_w1_w0 : w.heap.size < w1.heap.size := by omega
      have hy_w1_w0 : w.heap.size ≤ w1.heap.size := by omega
      have hx_w1_w0 : ∀ n : Nat, w.heap.size < w1.heap.size + n := by intro n; omega
      have hv_w1_w0 : ∀ n : Nat, w.heap.size ≤ w1.heap.size + n := by intro n; omega
      have hz_w1_w1 : w.heap.size + 1 < w1.heap.size := by omega
      have hy_w1_w1 : w.heap.size + 1 ≤ w1.heap.size := by omega
      have hx_w1_w1 : ∀ n : Nat, w.heap.size + 1 < w1.heap.size + n := by intro n; omega
      have hv_w1_w1 : ∀ n : Nat, w.heap.size + 1 ≤ w1.heap.size + n := by intro n; omega
      go_wp2
      go_ret
      refine ⟨by first | rfl | (simp), ?_⟩
      repeat' (first | (with_reducible exact Below.refl _ _) | (with_reducible assumption) | (with_reducible refine Below.alloc ?_ ?_ _) | (with_reducible refine Below.drew ?_) | (with_reducible refine bdrewN ?_ _) | (with_reducible refine Below.setCell ?_ ?_ _) | (with_reducible refine bthen ?_ (by assumption) ?_) | go_size)
    · rw [hp, Bool.true_and] at hr
      go_enter Try.func70, Try.ntmps70
      go_wp2_with fail
      refine wp_region_calm (by kernel_rfl) (by kernel_rfl) ?_
      repeat (go_big_quiet_step ((first | (with_reducible exact calm (k1 _)) | (with_reducible exact calm (k2 _)))))
      refine wpQuiet_nil ?_
      intro w1 hb_w1
      obtain ⟨hc_w1, hf_w1, hs_w1⟩ := bcell hb_w1
      try simp at hs_w1
      have hz_w1_w0 : w.heap.size < w1.heap.size := by omega
      have hy_w1_w0 : w.heap.size ≤ w1.heap.size := by omega
      have hx_w1_w0 : ∀ n : Nat, w.heap.size < w1.heap.size + n := by intro n; omega
      have hv_w1_w0 : ∀ n : Nat, w.heap.size ≤ w1.heap.size + n := by intro n; omega
      have hz_w1_w1 : w.heap.size + 1 < w1.heap.size := by omega
      have hy_w1_w1 : w.heap.size + 1 ≤ w1.heap.size := by omega
      have hx_w1_w1 : ∀ n : Nat, w.heap.size + 1 < w1.heap.size + n := by intro n; omega
      have hv_w1_w1 : ∀ n : Nat, w.heap.size + 1 ≤ w1.heap.size + n := by intro n; omega
      go_wp2
      go_ret
      refine ⟨by first | rfl | (simp), ?_⟩
      repeat' (first | (with_reducible exact Below.refl _ _) | (with_reducible assumption) | (with_reducible refine Below.alloc ?_ ?_ _) | (with_reducible refine Below.drew ?_) | (with_reducible refine bdrewN ?_ _) | (with_reducible refine Below.setCell ?_ ?_ _) | (with_reducible refine bthen ?_ (by assumption) ?_) | go_size)
end Go.Proofs.Ytkjakgemjhbfoaa
