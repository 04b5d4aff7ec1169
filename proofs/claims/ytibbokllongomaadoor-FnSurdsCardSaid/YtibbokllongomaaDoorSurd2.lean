/-
  Surds: conjugates, comparison with a fraction, reduced surds.
-/
import Derived.Test.YtibbokllongomaaDoorSurd
import Derived.Test.YtibbokllongomaaDoorFrac
namespace Go.Proofs.YtibbokllongomaaDoor
open Go.RowKit

theorem rootZ_any (n : Int) (h0 : 0 ≤ n) (h1 : n ≤ 1000000000000000000) (r : Int) (hr : ((isq n.toNat : Nat) : Int) = r) (w : World) : Calls Tryd.prog 84 #[.int .i64 n] w (Ret w (.int .i64 r)) := by
  obtain ⟨k, rfl⟩ := Int.eq_ofNat_of_zero_le h0
  exact root_any k (by omega) r hr w
theorem l07RootZ_any (n : Int) (h0 : 0 ≤ n) (h1 : n ≤ 1000000000000000000) (r : Int) (hr : ((isq n.toNat : Nat) : Int) = r) (w : World) : Calls Tryd.prog 80 #[.int .i64 n] w (Ret w (.int .i64 r)) := by
  obtain ⟨k, rfl⟩ := Int.eq_ofNat_of_zero_le h0
  exact l07Root_any k (by omega) r hr w
def conjM (p d q : Int) : Int × Int × Int × Int := if okS p d q then (-p, d, -q, 0) else (0, 0, 0, 1)
theorem conjugateOfI_any (p d q : Int) (w : World) : Calls Tryd.prog 28 #[.agg #[.int .i64 p, .int .i64 d, .int .i64 q]] w (Ret w (.tuple #[.agg #[.int .i64 (conjM p d q).1, .int .i64 (conjM p d q).2.1, .int .i64 (conjM p d q).2.2.1], .int .i64 (conjM p d q).2.2.2])) := by
  cases h : okS p d q
  · have e : conjM p d q = (0, 0, 0, 1) := by simp [conjM, h]
    rw [e]; clear e
    have H := Lib.hid h
    clear h
    go_enter Tryd.func28, Tryd.ntmps28
    go_wp2_with fail
    apply Calls.mono
    · with_reducible exact validSurd_any _ _ _ false H.out _
    rintro _ w1 ⟨rfl, hb_w1⟩
    obtain ⟨hc_w1, hf_w1, hs_w1⟩ := bcell hb_w1
    try simp at hs_w1
    have hz_w1_w0 : w.heap.size < w1.heap.size := by omega
    have hy_w1_w0 : w.heap.size ≤ w1.heap.size := by omega
    have hx_w1_w0 : ∀ n : Nat, w.heap.size < w1.heap.size + n := by intro n; omega
    have hv_w1_w0 : ∀ n : Nat, w.heap.size ≤ w1.heap.size + n := by intro n; omega
    have hz_w1_w1 : w.heap.size + 1 < w1.heap.size := by omega
    have hy_w1_w1 : w.heap.size + 1 ≤ w1.heap.size := by omega
    have hx_w1_w1 : ∀ n : Nat, w.heap.size + 1 < w1.heap.size + n := by intro n; omega
    have hv_w1_w1 : ∀ n : Nat, w.heap.size + 1 ≤ w1.heap.size + n := by intro n; omega
    go_wp2
    refine bodyPost_ret (by simp [results, Tryd.results28, go_sem, *]; try rfl) rfl ?_
    refine ⟨by first | rfl | simp, ?_⟩
    repeat' (first | (with_reducible exact Below.refl _ _) | (with_reducible assumption) | (with_reducible refine Below.alloc ?_ ?_ _) | (with_reducible refine Below.drew ?_) | (with_reducible refine bdrewN ?_ _) | (with_reducible refine Below.setCell ?_ ?_ _) | (with_reducible refine bthen ?_ (by assumption) ?_) | go_size)
  · have e : conjM p d q = (-p, d, -q, 0) := by simp [conjM, h]
    rw [e]; clear e
    obtain ⟨a1, a2, a3, a4, a5, a6, a7, _, _⟩ := okS_bd h
    have H := Lib.hid h
    clear h
    go_enter Tryd.func28, Tryd.ntmps28
    go_wp2_with fail
    apply Calls.mono
    · with_reducible exact validSurd_any _ _ _ true H.out _
    rintro _ w1 ⟨rfl, hb_w1⟩
    obtain ⟨hc_w1, hf_w1, hs_w1⟩ := bcell hb_w1
    try simp at hs_w1
    have hz_w1_w0 : w.heap.size < w1.heap.size := by omega
    have hy_w1_w0 : w.heap.size ≤ w1.heap.size := by omega
    have hx_w1_w0 : ∀ n : Nat, w.heap.size < w1.heap.size + n := by intro n; omega
    have hv_w1_w0 : ∀ n : Nat, w.heap.size ≤ w1.heap.size + n := by intro n; omega
    have hz_w1_w1 : w.heap.size + 1 < w1.heap.size := by omega
    have hy_w1_w1 : w.heap.size + 1 ≤ w1.heap.size := by omega
    have hx_w1_w1 : ∀ n : Nat, w.heap.size + 1 < w1.heap.size + n := by intro n; omega
    have hv_w1_w1 : ∀ n : Nat, w.heap.size + 1 ≤ w1.heap.size + n := by intro n; omega
    go_wp2
    refine bodyPost_ret (by simp [results, Tryd.results28, go_sem, *]; try rfl) rfl ?_
    refine ⟨by first | rfl | simp, ?_⟩
    repeat' (first | (with_reducible exact Below.refl _ _) | (with_reducible assumption) | (with_reducible refine Below.alloc ?_ ?_ _) | (with_reducible refine Below.drew ?_) | (with_reducible refine bdrewN ?_ _) | (with_reducible refine Below.setCell ?_ ?_ _) | (with_reducible refine bthen ?_ (by assumption) ?_) | go_size)
/-- The surd lies below the fraction n / m. -/
def lessV (p d q n m : Int) : Bool := decide (n * q - p * m > 0) && decide (n * q - p * m > ((isq (d * m * m).toNat : Nat) : Int))
def lessB (p d q n m : Int) : Bool := if q > 0 then lessV p d q n m else !lessV p d q n m
def cmpV (p d q n m : Int) : Int := if lessB p d q n m then -1 else 1
theorem cmpV_t {p d q n m : Int} (h : lessB p d q n m = true) : cmpV p d q n m = -1 := by unfold cmpV; rw [h]; rfl
theorem cmpV_f {p d q n m : Int} (h : lessB p d q n m = false) : cmpV p d q n m = 1 := by unfold cmpV; rw [h]; rfl
/-- What the comparison asks of its arguments. -/
structure CmpIn (p d q n m : Int) : Prop where
  d0 : 0 ≤ d
  d1 : d ≤ 1000000
  p0 : -1000000 ≤ p
  p1 : p ≤ 1000000
  q0 : -1000000 ≤ q
  q1 : q ≤ 1000000
  n0 : -1000000 ≤ n
  n1 : n ≤ 1000000
  m0 : 1 ≤ m
  m1 : m ≤ 1000000
theorem CmpIn.facts {p d q n m : Int} (h : CmpIn p d q n m) : (-1000000000000 ≤ n * q ∧ n * q ≤ 1000000000000) ∧ (-1000000000000 ≤ p * m ∧ p * m ≤ 1000000000000) ∧ m * p = p * m ∧ (0 ≤ d * m ∧ d * m ≤ 1000000000000) ∧ (0 ≤ d * m * m ∧ d * m * m ≤ 1000000000000000000) ∧ (0 ≤ m * m ∧ m * m ≤ 1000000000000) ∧ m * m * d = d * m * m := by
  obtain ⟨d0, d1, p0, p1, q0, q1, n0, n1, m0, m1⟩ := h
  have a1 := @mul_bd n q 1000000 1000000 (by omega) (by omega) (by omega) (by omega)
  have a2 := @mul_bd p m 1000000 1000000 (by omega) (by omega) (by omega) (by omega)
  have a3 := @mul_bd d m 1000000 1000000 (by omega) (by omega) (by omega) (by omega)
  have a4 := Int.mul_nonneg d0 (show 0 ≤ m by omega)
  have a5 := Int.mul_nonneg a4 (show 0 ≤ m by omega)
  have a6 := @mul_bd (d * m) m 1000000000000 1000000 (by omega) (by omega) (by omega) (by omega)
  have a7 := @mul_bd m m 1000000 1000000 (by omega) (by omega) (by omega) (by omega)
  have a8 := Int.mul_nonneg (show 0 ≤ m by omega) (show 0 ≤ m by omega)
  refine ⟨⟨by omega, by omega⟩, ⟨by omega, by omega⟩, Int.mul_comm m p, ⟨a4, by omega⟩, ⟨a5, by omega⟩, ⟨a8, by omega⟩, ?_⟩
  rw [Int.mul_comm (m * m) d, Int.mul_assoc]
theorem isqT_bd {x : Int} (h1 : x ≤ 1000000000000000000) : (0 : Int) ≤ ((isq x.toNat : Nat) : Int) ∧ ((isq x.toNat : Nat) : Int) ≤ 1000000000 := by
  have := isq_le x.toNat (by omega)
  omega
set_option maxHeartbeats 2000000 in
theorem compareSurd_any (p d q n m : Int) (hI : CmpIn p d q n m) (r : Int) (hr : cmpV p d q n m = r) (w : World) : Calls Tryd.prog 63 #[.agg #[.int .i64 p, .int .i64 d, .int .i64 q], .int .i64 n, .int .i64 m] w (Ret w (.int .i64 r)) := by
  obtain ⟨⟨b1, b2⟩, ⟨b3, b4⟩, b5, ⟨b6, b7⟩, ⟨b8, b9⟩, ⟨b10, b11⟩, b12⟩ := hI.facts
  obtain ⟨t0, t1⟩ := isqT_bd b9
  obtain ⟨d0, d1, p0, p1, q0, q1, n0, n1, m0, m1⟩ := hI
  unfold cmpV at hr
  unfold lessB lessV at hr
  rw [← b12] at hr t0 t1 b8 b9
  rw [← b5] at b3 b4 hr
  have hx : n * q - m * p = -(m * p - n * q) := by omega
  clear b12 b5
  generalize hT : ((isq (m * m * d).toNat : Nat) : Int) = T at *
  by_cases h1 : n * q - m * p > 0
  · by_cases h2 : n * q - m * p > T
    · by_cases hq : q > 0
      · obtain rfl : (-1 : Int) = r := by rw [← hr, decide_eq_true h1, decide_eq_true h2, if_pos hq]; rfl
        have k1 : decide (n * q ≤ m * p) = false := by rw [decide_eq_false_iff_not]; omega
        have k2 : decide (-(m * p - n * q) ≤ T) = false := by rw [decide_eq_false_iff_not]; omega
        have k3 : decide (0 < q) = true := by rw [decide_eq_true_iff]; omega
        have HT := Lib.hid hT
        clear hr hT h1 hq hx h2
        go_enter Tryd.func63, Tryd.ntmps63
        go_wp2_with fail
        apply Calls.mono
        · with_reducible exact rootZ_any _ (by omega) (by omega) _ HT.out _
        rintro _ w1 ⟨rfl, hb_w1⟩
        obtain ⟨hc_w1, hf_w1, hs_w1⟩ := bcell hb_w1
        try simp at hs_w1
        have hz_w1_w0 : w.heap.size < w1.heap.size := by omega
        have hy_w1_w0 : w.heap.size ≤ w1.heap.size := by omega
        have hx_w1_w0 : ∀ n : Nat, w.heap.size < w1.heap.size + n := by intro n; omega
        have hv_w1_w0 : ∀ n : Nat, w.heap.size ≤ w1.heap.size + n := by intro n; omega
        go_wp2
        go_ret
        refine ⟨by first | rfl | (simp), ?_⟩
        repeat' (first | (with_reducible exact Below.refl _ _) | (with_reducible assumption) | (with_reducible refine Below.alloc ?_ ?_ _) | (with_reducible refine Below.drew ?_) | (with_reducible refine bdrewN ?_ _) | (with_reducible refine Below.setCell ?_ ?_ _) | (with_reducible refine bthen ?_ (by assumption) ?_) | go_size)
      · obtain rfl : (1 : Int) = r := by rw [← hr, decide_eq_true h1, decide_eq_true h2, if_neg hq]; rfl
        have k1 : decide (n * q ≤ m * p) = false := by rw [decide_eq_false_iff_not]; omega
        have k2 : decide (-(m * p - n * q) ≤ T) = false := by rw [decide_eq_false_iff_not]; omega
        have k3 : decide (0 < q) = false := by rw [decide_eq_false_iff_not]; omega
        have HT := Lib.hid hT
        clear hr hT h1 hq hx h2
        go_enter Tryd.func63, Tryd.ntmps63
        go_wp2_with fail
        apply Calls.mono
        · with_reducible exact rootZ_any _ (by omega) (by omega) _ HT.out _
        rintro _ w1 ⟨rfl, hb_w1⟩
        obtain ⟨hc_w1, hf_w1, hs_w1⟩ := bcell hb_w1
        try simp at hs_w1
        have hz_w1_w0 : w.heap.size < w1.heap.size := by omega
        have hy_w1_w0 : w.heap.size ≤ w1.heap.size := by omega
        have hx_w1_w0 : ∀ n : Nat, w.heap.size < w1.heap.size + n := by intro n; omega
        have hv_w1_w0 : ∀ n : Nat, w.heap.size ≤ w1.heap.size + n := by intro n; omega
        go_wp2
        go_ret
        refine ⟨by first | rfl | (simp), ?_⟩
        repeat' (first | (with_reducible exact Below.refl _ _) | (with_reducible assumption) | (with_reducible refine Below.alloc ?_ ?_ _) | (with_reducible refine Below.drew ?_) | (with_reducible refine bdrewN ?_ _) | (with_reducible refine Below.setCell ?_ ?_ _) | (with_reducible refine bthen ?_ (by assumption) ?_) | go_size)
    · by_cases hq : q > 0
      · obtain rfl : (1 : Int) = r := by rw [← hr, decide_eq_true h1, decide_eq_false h2, if_pos hq]; rfl
        have k1 : decide (n * q ≤ m * p) = false := by rw [decide_eq_false_iff_not]; omega
        have k2 : decide (-(m * p - n * q) ≤ T) = true := by rw [decide_eq_true_iff]; omega
        have k3 : decide (0 < q) = true := by rw [decide_eq_true_iff]; omega
        have HT := Lib.hid hT
        clear hr hT h1 hq hx h2
        go_enter Tryd.func63, Tryd.ntmps63
        go_wp2_with fail
        apply Calls.mono
        · with_reducible exact rootZ_any _ (by omega) (by omega) _ HT.out _
        rintro _ w1 ⟨rfl, hb_w1⟩
        obtain ⟨hc_w1, hf_w1, hs_w1⟩ := bcell hb_w1
        try simp at hs_w1
        have hz_w1_w0 : w.heap.size < w1.heap.size := by omega
        have hy_w1_w0 : w.heap.size ≤ w1.heap.size := by omega
        have hx_w1_w0 : ∀ n : Nat, w.heap.size < w1.heap.size + n := by intro n; omega
        have hv_w1_w0 : ∀ n : Nat, w.heap.size ≤ w1.heap.size + n := by intro n; omega
        go_wp2
        go_ret
        refine ⟨by first | rfl | (simp), ?_⟩
        repeat' (first | (with_reducible exact Below.refl _ _) | (with_reducible assumption) | (with_reducible refine Below.alloc ?_ ?_ _) | (with_reducible refine Below.drew ?_) | (with_reducible refine bdrewN ?_ _) | (with_reducible refine Below.setCell ?_ ?_ _) | (with_reducible refine bthen ?_ (by assumption) ?_) | go_size)
      · obtain rfl : (-1 : Int) = r := by rw [← hr, decide_eq_true h1, decide_eq_false h2, if_neg hq]; rfl
        have k1 : decide (n * q ≤ m * p) = false := by rw [decide_eq_false_iff_not]; omega
        have k2 : decide (-(m * p - n * q) ≤ T) = true := by rw [decide_eq_true_iff]; omega
        have k3 : decide (0 < q) = false := by rw [decide_eq_false_iff_not]; omega
        have HT := Lib.hid hT
        clear hr hT h1 hq hx h2
        go_enter Tryd.func63, Tryd.ntmps63
        go_wp2_with fail
        apply Calls.mono
        · with_reducible exact rootZ_any _ (by omega) (by omega) _ HT.out _
        rintro _ w1 ⟨rfl, hb_w1⟩
        obtain ⟨hc_w1, hf_w1, hs_w1⟩ := bcell hb_w1
        try simp at hs_w1
        have hz_w1_w0 : w.heap.size < w1.heap.size := by omega
        have hy_w1_w0 : w.heap.size ≤ w1.heap.size := by omega
        have hx_w1_w0 : ∀ n : Nat, w.heap.size < w1.heap.size + n := by intro n; omega
        have hv_w1_w0 : ∀ n : Nat, w.heap.size ≤ w1.heap.size + n := by intro n; omega
        go_wp2
        go_ret
        refine ⟨by first | rfl | (simp), ?_⟩
        repeat' (first | (with_reducible exact Below.refl _ _) | (with_reducible assumption) | (with_reducible refine Below.alloc ?_ ?_ _) | (with_reducible refine Below.drew ?_) | (with_reducible refine bdrewN ?_ _) | (with_reducible refine Below.setCell ?_ ?_ _) | (with_reducible refine bthen ?_ (by assumption) ?_) | go_size)
  · by_cases hq : q > 0
    · obtain rfl : (1 : Int) = r := by rw [← hr, decide_eq_false h1, if_pos hq]; rfl
      have k1 : decide (n * q ≤ m * p) = true := by rw [decide_eq_true_iff]; omega
      have k3 : decide (0 < q) = true := by rw [decide_eq_true_iff]; omega
      have HT := Lib.hid hT
      clear hr hT h1 hq hx
      go_enter Tryd.func63, Tryd.ntmps63
      go_wp2
      go_ret
      refine ⟨by first | rfl | (simp), ?_⟩
      repeat' (first | (with_reducible exact Below.refl _ _) | (with_reducible assumption) | (with_reducible refine Below.alloc ?_ ?_ _) | (with_reducible refine Below.drew ?_) | (with_reducible refine bdrewN ?_ _) | (with_reducible refine Below.setCell ?_ ?_ _) | (with_reducible refine bthen ?_ (by assumption) ?_) | go_size)
    · obtain rfl : (-1 : Int) = r := by rw [← hr, decide_eq_false h1, if_neg hq]; rfl
      have k1 : decide (n * q ≤ m * p) = true := by rw [decide_eq_true_iff]; omega
      have k3 : decide (0 < q) = false := by rw [decide_eq_false_iff_not]; omega
      have HT := Lib.hid hT
      clear hr hT h1 hq hx
      go_enter Tryd.func63, Tryd.ntmps63
      go_wp2
      go_ret
      refine ⟨by first | rfl | (simp), ?_⟩
      repeat' (first | (with_reducible exact Below.refl _ _) | (with_reducible assumption) | (with_reducible refine Below.alloc ?_ ?_ _) | (with_reducible refine Below.drew ?_) | (with_reducible refine bdrewN ?_ _) | (with_reducible refine Below.setCell ?_ ?_ _) | (with_reducible refine bthen ?_ (by assumption) ?_) | go_size)
set_option maxHeartbeats 2000000 in
theorem l07Less_any (p d q n m : Int) (hI : CmpIn p d q n m) (r : Bool) (hr : lessB p d q n m = r) (w : World) : Calls Tryd.prog 70 #[.agg #[.int .i64 p, .int .i64 d, .int .i64 q], .int .i64 n, .int .i64 m] w (Ret w (.bool r)) := by
  obtain ⟨⟨b1, b2⟩, ⟨b3, b4⟩, b5, ⟨b6, b7⟩, ⟨b8, b9⟩, ⟨b10, b11⟩, b12⟩ := hI.facts
  obtain ⟨t0, t1⟩ := isqT_bd b9
  obtain ⟨d0, d1, p0, p1, q0, q1, n0, n1, m0, m1⟩ := hI
  unfold lessB lessV at hr
  clear b12 b5
  generalize hT : ((isq (d * m * m).toNat : Nat) : Int) = T at *
  by_cases h1 : n * q - p * m > 0
  · by_cases h2 : n * q - p * m > T
    · by_cases hq : q > 0
      · obtain rfl : (true : Bool) = r := by rw [← hr, decide_eq_true h1, decide_eq_true h2, if_pos hq]; rfl
        have k1 : decide (p * m < n * q) = true := by rw [decide_eq_true_iff]; omega
        have k2 : decide (T < n * q - p * m) = true := by rw [decide_eq_true_iff]; omega
        have k3 : decide (0 < q) = true := by rw [decide_eq_true_iff]; omega
        have HT := Lib.hid hT
        clear hr hT h1 hq h2
        go_enter Tryd.func70, Tryd.ntmps70
        go_wp2_with fail
        apply Calls.mono
        · with_reducible exact l07RootZ_any _ (by omega) (by omega) _ HT.out _
        rintro _ w1 ⟨rfl, hb_w1⟩
        obtain ⟨hc_w1, hf_w1, hs_w1⟩ := bcell hb_w1
        try simp at hs_w1
        have hz_w1_w0 : w.heap.size < w1.heap.size := by omega
        have hy_w1_w0 : w.heap.size ≤ w1.heap.size := by omega
        have hx_w1_w0 : ∀ n : Nat, w.heap.size < w1.heap.size + n := by intro n; omega
        have hv_w1_w0 : ∀ n : Nat, w.heap.size ≤ w1.heap.size + n := by intro n; omega
        go_wp2
        go_ret
        refine ⟨by first | rfl | (simp), ?_⟩
        repeat' (first | (with_reducible exact Below.refl _ _) | (with_reducible assumption) | (with_reducible refine Below.alloc ?_ ?_ _) | (with_reducible refine Below.drew ?_) | (with_reducible refine bdrewN ?_ _) | (with_reducible refine Below.setCell ?_ ?_ _) | (with_reducible refine bthen ?_ (by assumption) ?_) | go_size)
      · obtain rfl : (false : Bool) = r := by rw [← hr, decide_eq_true h1, decide_eq_true h2, if_neg hq]; rfl
        have k1 : decide (p * m < n * q) = true := by rw [decide_eq_true_iff]; omega
        have k2 : decide (T < n * q - p * m) = true := by rw [decide_eq_true_iff]; omega
        have k3 : decide (0 < q) = false := by rw [decide_eq_false_iff_not]; omega
        have HT := Lib.hid hT
        clear hr hT h1 hq h2
        go_enter Tryd.func70, Tryd.ntmps70
        go_wp2_with fail
        apply Calls.mono
        · with_reducible exact l07RootZ_any _ (by omega) (by omega) _ HT.out _
        rintro _ w1 ⟨rfl, hb_w1⟩
        obtain ⟨hc_w1, hf_w1, hs_w1⟩ := bcell hb_w1
        try simp at hs_w1
        have hz_w1_w0 : w.heap.size < w1.heap.size := by omega
        have hy_w1_w0 : w.heap.size ≤ w1.heap.size := by omega
        have hx_w1_w0 : ∀ n : Nat, w.heap.size < w1.heap.size + n := by intro n; omega
        have hv_w1_w0 : ∀ n : Nat, w.heap.size ≤ w1.heap.size + n := by intro n; omega
        go_wp2
        go_ret
        refine ⟨by first | rfl | (simp), ?_⟩
        repeat' (first | (with_reducible exact Below.refl _ _) | (with_reducible assumption) | (with_reducible refine Below.alloc ?_ ?_ _) | (with_reducible refine Below.drew ?_) | (with_reducible refine bdrewN ?_ _) | (with_reducible refine Below.setCell ?_ ?_ _) | (with_reducible refine bthen ?_ (by assumption) ?_) | go_size)
    · by_cases hq : q > 0
      · obtain rfl : (false : Bool) = r := by rw [← hr, decide_eq_true h1, decide_eq_false h2, if_pos hq]; rfl
        have k1 : decide (p * m < n * q) = true := by rw [decide_eq_true_iff]; omega
        have k2 : decide (T < n * q - p * m) = false := by rw [decide_eq_false_iff_not]; omega
        have k3 : decide (0 < q) = true := by rw [decide_eq_true_iff]; omega
        have HT := Lib.hid hT
        clear hr hT h1 hq h2
        go_enter Tryd.func70, Tryd.ntmps70
        go_wp2_with fail
        apply Calls.mono
        · with_reducible exact l07RootZ_any _ (by omega) (by omega) _ HT.out _
        rintro _ w1 ⟨rfl, hb_w1⟩
        obtain ⟨hc_w1, hf_w1, hs_w1⟩ := bcell hb_w1
        try simp at hs_w1
        have hz_w1_w0 : w.heap.size < w1.heap.size := by omega
        have hy_w1_w0 : w.heap.size ≤ w1.heap.size := by omega
        have hx_w1_w0 : ∀ n : Nat, w.heap.size < w1.heap.size + n := by intro n; omega
        have hv_w1_w0 : ∀ n : Nat, w.heap.size ≤ w1.heap.size + n := by intro n; omega
        go_wp2
        go_ret
        refine ⟨by first | rfl | (simp), ?_⟩
        repeat' (first | (with_reducible exact Below.refl _ _) | (with_reducible assumption) | (with_reducible refine Below.alloc ?_ ?_ _) | (with_reducible refine Below.drew ?_) | (with_reducible refine bdrewN ?_ _) | (with_reducible refine Below.setCell ?_ ?_ _) | (with_reducible refine bthen ?_ (by assumption) ?_) | go_size)
      · obtain rfl : (true : Bool) = r := by rw [← hr, decide_eq_true h1, decide_eq_false h2, if_neg hq]; rfl
        have k1 : decide (p * m < n * q) = true := by rw [decide_eq_true_iff]; omega
        have k2 : decide (T < n * q - p * m) = false := by rw [decide_eq_false_iff_not]; omega
        have k3 : decide (0 < q) = false := by rw [decide_eq_false_iff_not]; omega
        have HT := Lib.hid hT
        clear hr hT h1 hq h2
        go_enter Tryd.func70, Tryd.ntmps70
        go_wp2_with fail
        apply Calls.mono
        · with_reducible exact l07RootZ_any _ (by omega) (by omega) _ HT.out _
        rintro _ w1 ⟨rfl, hb_w1⟩
        obtain ⟨hc_w1, hf_w1, hs_w1⟩ := bcell hb_w1
        try simp at hs_w1
        have hz_w1_w0 : w.heap.size < w1.heap.size := by omega
        have hy_w1_w0 : w.heap.size ≤ w1.heap.size := by omega
        have hx_w1_w0 : ∀ n : Nat, w.heap.size < w1.heap.size + n := by intro n; omega
        have hv_w1_w0 : ∀ n : Nat, w.heap.size ≤ w1.heap.size + n := by intro n; omega
        go_wp2
        go_ret
        refine ⟨by first | rfl | (simp), ?_⟩
        repeat' (first | (with_reducible exact Below.refl _ _) | (with_reducible assumption) | (with_reducible refine Below.alloc ?_ ?_ _) | (with_reducible refine Below.drew ?_) | (with_reducible refine bdrewN ?_ _) | (with_reducible refine Below.setCell ?_ ?_ _) | (with_reducible refine bthen ?_ (by assumption) ?_) | go_size)
  · by_cases hq : q > 0
    · obtain rfl : (false : Bool) = r := by rw [← hr, decide_eq_false h1, if_pos hq]; rfl
      have k1 : decide (p * m < n * q) = false := by rw [decide_eq_false_iff_not]; omega
      have k3 : decide (0 < q) = true := by rw [decide_eq_true_iff]; omega
      have HT := Lib.hid hT
      clear hr hT h1 hq
      go_enter Tryd.func70, Tryd.ntmps70
      go_wp2
      go_ret
      refine ⟨by first | rfl | (simp), ?_⟩
      repeat' (first | (with_reducible exact Below.refl _ _) | (with_reducible assumption) | (with_reducible refine Below.alloc ?_ ?_ _) | (with_reducible refine Below.drew ?_) | (with_reducible refine bdrewN ?_ _) | (with_reducible refine Below.setCell ?_ ?_ _) | (with_reducible refine bthen ?_ (by assumption) ?_) | go_size)
    · obtain rfl : (true : Bool) = r := by rw [← hr, decide_eq_false h1, if_neg hq]; rfl
      have k1 : decide (p * m < n * q) = false := by rw [decide_eq_false_iff_not]; omega
      have k3 : decide (0 < q) = false := by rw [decide_eq_false_iff_not]; omega
      have HT := Lib.hid hT
      clear hr hT h1 hq
      go_enter Tryd.func70, Tryd.ntmps70
      go_wp2
      go_ret
      refine ⟨by first | rfl | (simp), ?_⟩
      repeat' (first | (with_reducible exact Below.refl _ _) | (with_reducible assumption) | (with_reducible refine Below.alloc ?_ ?_ _) | (with_reducible refine Below.drew ?_) | (with_reducible refine bdrewN ?_ _) | (with_reducible refine Below.setCell ?_ ?_ _) | (with_reducible refine bthen ?_ (by assumption) ?_) | go_size)
def cmpM (p d q n m : Int) : Int × Int := if okS p d q && okF n m then (if inB n (-1000000) 1000000 && decide (m ≤ 1000000) then (cmpV p d q n m, 0) else (0, 2)) else (0, 1)
theorem okF_m {n m : Int} (h : okF n m = true) : 1 ≤ m ∧ m ≤ 1000000000 := (okF_iff.1 h).1
theorem cmpIn_of {p d q n m : Int} (h : okS p d q = true) (h2 : okF n m = true) (h3 : inB n (-1000000) 1000000 = true) (h4 : m ≤ 1000000) : CmpIn p d q n m := by
  obtain ⟨a1, a2, a3, a4, a5, a6, a7, _, _⟩ := okS_bd h
  have := okF_m h2
  have := inB_iff.1 h3
  constructor <;> omega
set_option maxHeartbeats 2000000 in
theorem compareSurdEI_any (p d q n m : Int) (w : World) : Calls Tryd.prog 27 #[.agg #[.int .i64 p, .int .i64 d, .int .i64 q], .agg #[.int .i64 n, .int .i64 m]] w (Ret w (.tuple #[.int .i64 (cmpM p d q n m).1, .int .i64 (cmpM p d q n m).2])) := by
  cases h1 : okS p d q
  · have e : cmpM p d q n m = (0, 1) := by simp [cmpM, h1]
    rw [e]; clear e
    have H1 := Lib.hid h1
    clear h1
    go_enter Tryd.func27, Tryd.ntmps27
    go_wp2_with fail
    apply Calls.mono
    · with_reducible exact validSurd_any _ _ _ false H1.out _
    rintro _ w1 ⟨rfl, hb_w1⟩
    obtain ⟨hc_w1, hf_w1, hs_w1⟩ := bcell hb_w1
    try simp at hs_w1
    have hz_w1_w0 : w.heap.size < w1.heap.size := by omega
    have hy_w1_w0 : w.heap.size ≤ w1.heap.size := by omega
    have hx_w1_w0 : ∀ n : Nat, w.heap.size < w1.heap.size + n := by intro n; omega
    have hv_w1_w0 : ∀ n : Nat, w.heap.size ≤ w1.heap.size + n := by intro n; omega
    have hz_w1_w1 : w.heap.size + 1 < w1.heap.size := by omega
    have hy_w1_w1 : w.heap.size + 1 ≤ w1.heap.size := by omega
    have hx_w1_w1 : ∀ n : Nat, w.heap.size + 1 < w1.heap.size + n := by intro n; omega
    have hv_w1_w1 : ∀ n : Nat, w.heap.size + 1 ≤ w1.heap.size + n := by intro n; omega
    go_wp2
    go_ret2
    refine ⟨by first | rfl | (simp), ?_⟩
    repeat' (first | (with_reducible exact Below.refl _ _) | (with_reducible assumption) | (with_reducible refine Below.alloc ?_ ?_ _) | (with_reducible refine Below.drew ?_) | (with_reducible refine bdrewN ?_ _) | (with_reducible refine Below.setCell ?_ ?_ _) | (with_reducible refine bthen ?_ (by assumption) ?_) | go_size)
  · cases h2 : okF n m
    · have e : cmpM p d q n m = (0, 1) := by simp [cmpM, h1, h2]
      rw [e]; clear e
      have H1 := Lib.hid h1
      have H2 := Lib.hid h2
      clear h1 h2
      go_enter Tryd.func27, Tryd.ntmps27
      go_wp2_with fail
      apply Calls.mono
      · with_reducible exact validSurd_any _ _ _ true H1.out _
      rintro _ w1 ⟨rfl, hb_w1⟩
      obtain ⟨hc_w1, hf_w1, hs_w1⟩ := bcell hb_w1
      try simp at hs_w1
      have hz_w1_w0 : w.heap.size < w1.heap.size := by omega
      have hy_w1_w0 : w.heap.size ≤ w1.heap.size := by omega
      have hx_w1_w0 : ∀ n : Nat, w.heap.size < w1.heap.size + n := by intro n; omega
      have hv_w1_w0 : ∀ n : Nat, w.heap.size ≤ w1.heap.size + n := by intro n; omega
      have hz_w1_w1 : w.heap.size + 1 < w1.heap.size := by omega
      have hy_w1_w1 : w.heap.size + 1 ≤ w1.heap.size := by omega
      have hx_w1_w1 : ∀ n : Nat, w.heap.size + 1 < w1.heap.size + n := by intro n; omega
      have hv_w1_w1 : ∀ n : Nat, w.heap.size + 1 ≤ w1.heap.size + n := by intro n; omega
      go_wp2_with fail
      apply Calls.mono
      · with_reducible exact validFraction_any _ _ false H2.out _
      rintro _ w2 ⟨rfl, hb_w2⟩
      obtain ⟨hc_w2, hf_w2, hs_w2⟩ := bcell hb_w2
      try simp at hs_w2
      have hz_w2_w0 : w.heap.size < w2.heap.size := by omega
      have hy_w2_w0 : w.heap.size ≤ w2.heap.size := by omega
      have hx_w2_w0 : ∀ n : Nat, w.heap.size < w2.heap.size + n := by intro n; omega
      have hv_w2_w0 : ∀ n : Nat, w.heap.size ≤ w2.heap.size + n := by intro n; omega
      have hz_w2_w1 : w.heap.size + 1 < w2.heap.size := by omega
      have hy_w2_w1 : w.heap.size + 1 ≤ w2.heap.size := by omega
      have hx_w2_w1 : ∀ n : Nat, w.heap.size + 1 < w2.heap.size + n := by intro n; omega
      have hv_w2_w1 : ∀ n : Nat, w.heap.size + 1 ≤ w2.heap.size + n := by intro n; omega
      go_wp2
      go_ret2
      refine ⟨by first | rfl | (simp), ?_⟩
      repeat' (first | (with_reducible exact Below.refl _ _) | (with_reducible assumption) | (with_reducible refine Below.alloc ?_ ?_ _) | (with_reducible refine Below.drew ?_) | (with_reducible refine bdrewN ?_ _) | (with_reducible refine Below.setCell ?_ ?_ _) | (with_reducible refine bthen ?_ (by assumption) ?_) | go_size)
    · cases h3 : inB n (-1000000) 1000000
      · have e : cmpM p d q n m = (0, 2) := by simp [cmpM, h1, h2, h3]
        rw [e]; clear e
        have H1 := Lib.hid h1
        have H2 := Lib.hid h2
        have H3 := Lib.hid h3
        clear h1 h2 h3
        go_enter Tryd.func27, Tryd.ntmps27
        go_wp2_with fail
        apply Calls.mono
        · with_reducible exact validSurd_any _ _ _ true H1.out _
        rintro _ w1 ⟨rfl, hb_w1⟩
        obtain ⟨hc_w1, hf_w1, hs_w1⟩ := bcell hb_w1
        try simp at hs_w1
        have hz_w1_w0 : w.heap.size < w1.heap.size := by omega
        have hy_w1_w0 : w.heap.size ≤ w1.heap.size := by omega
        have hx_w1_w0 : ∀ n : Nat, w.heap.size < w1.heap.size + n := by intro n; omega
        have hv_w1_w0 : ∀ n : Nat, w.heap.size ≤ w1.heap.size + n := by intro n; omega
        have hz_w1_w1 : w.heap.size + 1 < w1.heap.size := by omega
        have hy_w1_w1 : w.heap.size + 1 ≤ w1.heap.size := by omega
        have hx_w1_w1 : ∀ n : Nat, w.heap.size + 1 < w1.heap.size + n := by intro n; omega
        have hv_w1_w1 : ∀ n : Nat, w.heap.size + 1 ≤ w1.heap.size + n := by intro n; omega
        go_wp2_with fail
        apply Calls.mono
        · with_reducible exact validFraction_any _ _ true H2.out _
        rintro _ w2 ⟨rfl, hb_w2⟩
        obtain ⟨hc_w2, hf_w2, hs_w2⟩ := bcell hb_w2
        try simp at hs_w2
        have hz_w2_w0 : w.heap.size < w2.heap.size := by omega
        have hy_w2_w0 : w.heap.size ≤ w2.heap.size := by omega
        have hx_w2_w0 : ∀ n : Nat, w.heap.size < w2.heap.size + n := by intro n; omega
        have hv_w2_w0 : ∀ n : Nat, w.heap.size ≤ w2.heap.size + n := by intro n; omega
        have hz_w2_w1 : w.heap.size + 1 < w2.heap.size := by omega
        have hy_w2_w1 : w.heap.size + 1 ≤ w2.heap.size := by omega
        have hx_w2_w1 : ∀ n : Nat, w.heap.size + 1 < w2.heap.size + n := by intro n; omega
        have hv_w2_w1 : ∀ n : Nat, w.heap.size + 1 ≤ w2.heap.size + n := by intro n; omega
        go_wp2_with fail
        apply Calls.mono
        · with_reducible exact within_any _ _ _ false H3.out _
        rintro _ w3 ⟨rfl, hb_w3⟩
        obtain ⟨hc_w3, hf_w3, hs_w3⟩ := bcell hb_w3
        try simp at hs_w3
        have hz_w3_w0 : w.heap.size < w3.heap.size := by omega
        have hy_w3_w0 : w.heap.size ≤ w3.heap.size := by omega
        have hx_w3_w0 : ∀ n : Nat, w.heap.size < w3.heap.size + n := by intro n; omega
        have hv_w3_w0 : ∀ n : Nat, w.heap.size ≤ w3.heap.size + n := by intro n; omega
        have hz_w3_w1 : w.heap.size + 1 < w3.heap.size := by omega
        have hy_w3_w1 : w.heap.size + 1 ≤ w3.heap.size := by omega
        have hx_w3_w1 : ∀ n : Nat, w.heap.size + 1 < w3.heap.size + n := by intro n; omega
        have hv_w3_w1 : ∀ n : Nat, w.heap.size + 1 ≤ w3.heap.size + n := by intro n; omega
        go_wp2
        go_ret2
        refine ⟨by first | rfl | (simp), ?_⟩
        repeat' (first | (with_reducible exact Below.refl _ _) | (with_reducible assumption) | (with_reducible refine Below.alloc ?_ ?_ _) | (with_reducible refine Below.drew ?_) | (with_reducible refine bdrewN ?_ _) | (with_reducible refine Below.setCell ?_ ?_ _) | (with_reducible refine bthen ?_ (by assumption) ?_) | go_size)
      · by_cases h4 : m ≤ 1000000
        · have e : cmpM p d q n m = (cmpV p d q n m, 0) := by simp [cmpM, h1, h2, h3, h4]
          rw [e]; clear e
          have hI := cmpIn_of h1 h2 h3 h4
          have H1 := Lib.hid h1
          have H2 := Lib.hid h2
          have H3 := Lib.hid h3
          clear h1 h2 h3
          go_enter Tryd.func27, Tryd.ntmps27
          go_wp2_with fail
          apply Calls.mono
          · with_reducible exact validSurd_any _ _ _ true H1.out _
          rintro _ w1 ⟨rfl, hb_w1⟩
          obtain ⟨hc_w1, hf_w1, hs_w1⟩ := bcell hb_w1
          try simp at hs_w1
          have hz_w1_w0 : w.heap.size < w1.heap.size := by omega
          have hy_w1_w0 : w.heap.size ≤ w1.heap.size := by omega
          have hx_w1_w0 : ∀ n : Nat, w.heap.size < w1.heap.size + n := by intro n; omega
          have hv_w1_w0 : ∀ n : Nat, w.heap.size ≤ w1.heap.size + n := by intro n; omega
          have hz_w1_w1 : w.heap.size + 1 < w1.heap.size := by omega
          have hy_w1_w1 : w.heap.size + 1 ≤ w1.heap.size := by omega
          have hx_w1_w1 : ∀ n : Nat, w.heap.size + 1 < w1.heap.size + n := by intro n; omega
          have hv_w1_w1 : ∀ n : Nat, w.heap.size + 1 ≤ w1.heap.size + n := by intro n; omega
          go_wp2_with fail
          apply Calls.mono
          · with_reducible exact validFraction_any _ _ true H2.out _
          rintro _ w2 ⟨rfl, hb_w2⟩
          obtain ⟨hc_w2, hf_w2, hs_w2⟩ := bcell hb_w2
          try simp at hs_w2
          have hz_w2_w0 : w.heap.size < w2.heap.size := by omega
          have hy_w2_w0 : w.heap.size ≤ w2.heap.size := by omega
          have hx_w2_w0 : ∀ n : Nat, w.heap.size < w2.heap.size + n := by intro n; omega
          have hv_w2_w0 : ∀ n : Nat, w.heap.size ≤ w2.heap.size + n := by intro n; omega
          have hz_w2_w1 : w.heap.size + 1 < w2.heap.size := by omega
          have hy_w2_w1 : w.heap.size + 1 ≤ w2.heap.size := by omega
          have hx_w2_w1 : ∀ n : Nat, w.heap.size + 1 < w2.heap.size + n := by intro n; omega
          have hv_w2_w1 : ∀ n : Nat, w.heap.size + 1 ≤ w2.heap.size + n := by intro n; omega
          go_wp2_with fail
          apply Calls.mono
          · with_reducible exact within_any _ _ _ true H3.out _
          rintro _ w3 ⟨rfl, hb_w3⟩
          obtain ⟨hc_w3, hf_w3, hs_w3⟩ := bcell hb_w3
          try simp at hs_w3
          have hz_w3_w0 : w.heap.size < w3.heap.size := by omega
          have hy_w3_w0 : w.heap.size ≤ w3.heap.size := by omega
          have hx_w3_w0 : ∀ n : Nat, w.heap.size < w3.heap.size + n := by intro n; omega
          have hv_w3_w0 : ∀ n : Nat, w.heap.size ≤ w3.heap.size + n := by intro n; omega
          have hz_w3_w1 : w.heap.size + 1 < w3.heap.size := by omega
          have hy_w3_w1 : w.heap.size + 1 ≤ w3.heap.size := by omega
          have hx_w3_w1 : ∀ n : Nat, w.heap.size + 1 < w3.heap.size + n := by intro n; omega
          have hv_w3_w1 : ∀ n : Nat, w.heap.size + 1 ≤ w3.heap.size + n := by intro n; omega
          go_wp2_with fail
          apply Calls.mono
          · with_reducible exact compareSurd_any _ _ _ _ _ hI _ rfl _
          rintro _ w4 ⟨rfl, hb_w4⟩
          obtain ⟨hc_w4, hf_w4, hs_w4⟩ := bcell hb_w4
          try simp at hs_w4
          have hz_w4_w0 : w.heap.size < w4.heap.size := by omega
          have hy_w4_w0 : w.heap.size ≤ w4.heap.size := by omega
          have hx_w4_w0 : ∀ n : Nat, w.heap.size < w4.heap.size + n := by intro n; omega
          have hv_w4_w0 : ∀ n : Nat, w.heap.size ≤ w4.heap.size + n := by intro n; omega
          have hz_w4_w1 : w.heap.size + 1 < w4.heap.size := by omega
          have hy_w4_w1 : w.heap.size + 1 ≤ w4.heap.size := by omega
          have hx_w4_w1 : ∀ n : Nat, w.heap.size + 1 < w4.heap.size + n := by intro n; omega
          have hv_w4_w1 : ∀ n : Nat, w.heap.size + 1 ≤ w4.heap.size + n := by intro n; omega
          go_wp2
          go_ret2
          refine ⟨by first | rfl | (simp), ?_⟩
          repeat' (first | (with_reducible exact Below.refl _ _) | (with_reducible assumption) | (with_reducible refine Below.alloc ?_ ?_ _) | (with_reducible refine Below.drew ?_) | (with_reducible refine bdrewN ?_ _) | (with_reducible refine Below.setCell ?_ ?_ _) | (with_reducible refine bthen ?_ (by assumption) ?_) | go_size)
        · have e : cmpM p d q n m = (0, 2) := by simp [cmpM, h1, h2, h3, h4]
          rw [e]; clear e
          have H1 := Lib.hid h1
          have H2 := Lib.hid h2
          have H3 := Lib.hid h3
          clear h1 h2 h3
          go_enter Tryd.func27, Tryd.ntmps27
          go_wp2_with fail
          apply Calls.mono
          · with_reducible exact validSurd_any _ _ _ true H1.out _
          rintro _ w1 ⟨rfl, hb_w1⟩
          obtain ⟨hc_w1, hf_w1, hs_w1⟩ := bcell hb_w1
          try simp at hs_w1
          have hz_w1_w0 : w.heap.size < w1.heap.size := by omega
          have hy_w1_w0 : w.heap.size ≤ w1.heap.size := by omega
          have hx_w1_w0 : ∀ n : Nat, w.heap.size < w1.heap.size + n := by intro n; omega
          have hv_w1_w0 : ∀ n : Nat, w.heap.size ≤ w1.heap.size + n := by intro n; omega
          have hz_w1_w1 : w.heap.size + 1 < w1.heap.size := by omega
          have hy_w1_w1 : w.heap.size + 1 ≤ w1.heap.size := by omega
          have hx_w1_w1 : ∀ n : Nat, w.heap.size + 1 < w1.heap.size + n := by intro n; omega
          have hv_w1_w1 : ∀ n : Nat, w.heap.size + 1 ≤ w1.heap.size + n := by intro n; omega
          go_wp2_with fail
          apply Calls.mono
          · with_reducible exact validFraction_any _ _ true H2.out _
          rintro _ w2 ⟨rfl, hb_w2⟩
          obtain ⟨hc_w2, hf_w2, hs_w2⟩ := bcell hb_w2
          try simp at hs_w2
          have hz_w2_w0 : w.heap.size < w2.heap.size := by omega
          have hy_w2_w0 : w.heap.size ≤ w2.heap.size := by omega
          have hx_w2_w0 : ∀ n : Nat, w.heap.size < w2.heap.size + n := by intro n; omega
          have hv_w2_w0 : ∀ n : Nat, w.heap.size ≤ w2.heap.size + n := by intro n; omega
          have hz_w2_w1 : w.heap.size + 1 < w2.heap.size := by omega
          have hy_w2_w1 : w.heap.size + 1 ≤ w2.heap.size := by omega
          have hx_w2_w1 : ∀ n : Nat, w.heap.size + 1 < w2.heap.size + n := by intro n; omega
          have hv_w2_w1 : ∀ n : Nat, w.heap.size + 1 ≤ w2.heap.size + n := by intro n; omega
          go_wp2_with fail
          apply Calls.mono
          · with_reducible exact within_any _ _ _ true H3.out _
          rintro _ w3 ⟨rfl, hb_w3⟩
          obtain ⟨hc_w3, hf_w3, hs_w3⟩ := bcell hb_w3
          try simp at hs_w3
          have hz_w3_w0 : w.heap.size < w3.heap.size := by omega
          have hy_w3_w0 : w.heap.size ≤ w3.heap.size := by omega
          have hx_w3_w0 : ∀ n : Nat, w.heap.size < w3.heap.size + n := by intro n; omega
          have hv_w3_w0 : ∀ n : Nat, w.heap.size ≤ w3.heap.size + n := by intro n; omega
          have hz_w3_w1 : w.heap.size + 1 < w3.heap.size := by omega
          have hy_w3_w1 : w.heap.size + 1 ≤ w3.heap.size := by omega
          have hx_w3_w1 : ∀ n : Nat, w.heap.size + 1 < w3.heap.size + n := by intro n; omega
          have hv_w3_w1 : ∀ n : Nat, w.heap.size + 1 ≤ w3.heap.size + n := by intro n; omega
          go_wp2
          go_ret2
          refine ⟨by first | rfl | (simp), ?_⟩
          repeat' (first | (with_reducible exact Below.refl _ _) | (with_reducible assumption) | (with_reducible refine Below.alloc ?_ ?_ _) | (with_reducible refine Below.drew ?_) | (with_reducible refine bdrewN ?_ _) | (with_reducible refine Below.setCell ?_ ?_ _) | (with_reducible refine bthen ?_ (by assumption) ?_) | go_size)
set_option maxHeartbeats 2000000 in
theorem compareSurdES_any (p d q n m : Int) (w : World) : Calls Tryd.prog 34 #[.agg #[.int .i64 p, .int .i64 d, .int .i64 q], .agg #[.int .i64 n, .int .i64 m]] w (Ret w (.tuple #[.int .i64 (cmpM p d q n m).1, .int .i64 (cmpM p d q n m).2])) := by
  cases h1 : okS p d q
  · have e : cmpM p d q n m = (0, 1) := by simp [cmpM, h1]
    rw [e]; clear e
    have H1 := Lib.hid h1
    clear h1
    go_enter Tryd.func34, Tryd.ntmps34
    go_wp2_with fail
    apply Calls.mono
    · with_reducible exact l07Ok_any _ _ _ false H1.out _
    rintro _ w1 ⟨rfl, hb_w1⟩
    obtain ⟨hc_w1, hf_w1, hs_w1⟩ := bcell hb_w1
    try simp at hs_w1
    have hz_w1_w0 : w.heap.size < w1.heap.size := by omega
    have hy_w1_w0 : w.heap.size ≤ w1.heap.size := by omega
    have hx_w1_w0 : ∀ n : Nat, w.heap.size < w1.heap.size + n := by intro n; omega
    have hv_w1_w0 : ∀ n : Nat, w.heap.size ≤ w1.heap.size + n := by intro n; omega
    have hz_w1_w1 : w.heap.size + 1 < w1.heap.size := by omega
    have hy_w1_w1 : w.heap.size + 1 ≤ w1.heap.size := by omega
    have hx_w1_w1 : ∀ n : Nat, w.heap.size + 1 < w1.heap.size + n := by intro n; omega
    have hv_w1_w1 : ∀ n : Nat, w.heap.size + 1 ≤ w1.heap.size + n := by intro n; omega
    go_wp2
    go_ret2
    refine ⟨by first | rfl | (simp), ?_⟩
    repeat' (first | (with_reducible exact Below.refl _ _) | (with_reducible assumption) | (with_reducible refine Below.alloc ?_ ?_ _) | (with_reducible refine Below.drew ?_) | (with_reducible refine bdrewN ?_ _) | (with_reducible refine Below.setCell ?_ ?_ _) | (with_reducible refine bthen ?_ (by assumption) ?_) | go_size)
  · cases h2 : okF n m
    · have e : cmpM p d q n m = (0, 1) := by simp [cmpM, h1, h2]
      rw [e]; clear e
      have H1 := Lib.hid h1
      have H2 := Lib.hid h2
      clear h1 h2
      go_enter Tryd.func34, Tryd.ntmps34
      go_wp2_with fail
      apply Calls.mono
      · with_reducible exact l07Ok_any _ _ _ true H1.out _
      rintro _ w1 ⟨rfl, hb_w1⟩
      obtain ⟨hc_w1, hf_w1, hs_w1⟩ := bcell hb_w1
      try simp at hs_w1
      have hz_w1_w0 : w.heap.size < w1.heap.size := by omega
      have hy_w1_w0 : w.heap.size ≤ w1.heap.size := by omega
      have hx_w1_w0 : ∀ n : Nat, w.heap.size < w1.heap.size + n := by intro n; omega
      have hv_w1_w0 : ∀ n : Nat, w.heap.size ≤ w1.heap.size + n := by intro n; omega
      have hz_w1_w1 : w.heap.size + 1 < w1.heap.size := by omega
      have hy_w1_w1 : w.heap.size + 1 ≤ w1.heap.size := by omega
      have hx_w1_w1 : ∀ n : Nat, w.heap.size + 1 < w1.heap.size + n := by intro n; omega
      have hv_w1_w1 : ∀ n : Nat, w.heap.size + 1 ≤ w1.heap.size + n := by intro n; omega
      go_wp2_with fail
      apply Calls.mono
      · with_reducible exact l02Ok_any _ _ false H2.out _
      rintro _ w2 ⟨rfl, hb_w2⟩
      obtain ⟨hc_w2, hf_w2, hs_w2⟩ := bcell hb_w2
      try simp at hs_w2
      have hz_w2_w0 : w.heap.size < w2.heap.size := by omega
      have hy_w2_w0 : w.heap.size ≤ w2.heap.size := by omega
      have hx_w2_w0 : ∀ n : Nat, w.heap.size < w2.heap.size + n := by intro n; omega
      have hv_w2_w0 : ∀ n : Nat, w.heap.size ≤ w2.heap.size + n := by intro n; omega
      have hz_w2_w1 : w.heap.size + 1 < w2.heap.size := by omega
      have hy_w2_w1 : w.heap.size + 1 ≤ w2.heap.size := by omega
      have hx_w2_w1 : ∀ n : Nat, w.heap.size + 1 < w2.heap.size + n := by intro n; omega
      have hv_w2_w1 : ∀ n : Nat, w.heap.size + 1 ≤ w2.heap.size + n := by intro n; omega
      go_wp2
      go_ret2
      refine ⟨by first | rfl | (simp), ?_⟩
      repeat' (first | (with_reducible exact Below.refl _ _) | (with_reducible assumption) | (with_reducible refine Below.alloc ?_ ?_ _) | (with_reducible refine Below.drew ?_) | (with_reducible refine bdrewN ?_ _) | (with_reducible refine Below.setCell ?_ ?_ _) | (with_reducible refine bthen ?_ (by assumption) ?_) | go_size)
    · cases h3 : inB n (-1000000) 1000000
      · have e : cmpM p d q n m = (0, 2) := by simp [cmpM, h1, h2, h3]
        rw [e]; clear e
        have H1 := Lib.hid h1
        have H2 := Lib.hid h2
        have H3 := Lib.hid h3
        clear h1 h2 h3
        go_enter Tryd.func34, Tryd.ntmps34
        go_wp2_with fail
        apply Calls.mono
        · with_reducible exact l07Ok_any _ _ _ true H1.out _
        rintro _ w1 ⟨rfl, hb_w1⟩
        obtain ⟨hc_w1, hf_w1, hs_w1⟩ := bcell hb_w1
        try simp at hs_w1
        have hz_w1_w0 : w.heap.size < w1.heap.size := by omega
        have hy_w1_w0 : w.heap.size ≤ w1.heap.size := by omega
        have hx_w1_w0 : ∀ n : Nat, w.heap.size < w1.heap.size + n := by intro n; omega
        have hv_w1_w0 : ∀ n : Nat, w.heap.size ≤ w1.heap.size + n := by intro n; omega
        have hz_w1_w1 : w.heap.size + 1 < w1.heap.size := by omega
        have hy_w1_w1 : w.heap.size + 1 ≤ w1.heap.size := by omega
        have hx_w1_w1 : ∀ n : Nat, w.heap.size + 1 < w1.heap.size + n := by intro n; omega
        have hv_w1_w1 : ∀ n : Nat, w.heap.size + 1 ≤ w1.heap.size + n := by intro n; omega
        go_wp2_with fail
        apply Calls.mono
        · with_reducible exact l02Ok_any _ _ true H2.out _
        rintro _ w2 ⟨rfl, hb_w2⟩
        obtain ⟨hc_w2, hf_w2, hs_w2⟩ := bcell hb_w2
        try simp at hs_w2
        have hz_w2_w0 : w.heap.size < w2.heap.size := by omega
        have hy_w2_w0 : w.heap.size ≤ w2.heap.size := by omega
        have hx_w2_w0 : ∀ n : Nat, w.heap.size < w2.heap.size + n := by intro n; omega
        have hv_w2_w0 : ∀ n : Nat, w.heap.size ≤ w2.heap.size + n := by intro n; omega
        have hz_w2_w1 : w.heap.size + 1 < w2.heap.size := by omega
        have hy_w2_w1 : w.heap.size + 1 ≤ w2.heap.size := by omega
        have hx_w2_w1 : ∀ n : Nat, w.heap.size + 1 < w2.heap.size + n := by intro n; omega
        have hv_w2_w1 : ∀ n : Nat, w.heap.size + 1 ≤ w2.heap.size + n := by intro n; omega
        go_wp2_with fail
        apply Calls.mono
        · with_reducible exact l00In_any _ _ _ false H3.out _
        rintro _ w3 ⟨rfl, hb_w3⟩
        obtain ⟨hc_w3, hf_w3, hs_w3⟩ := bcell hb_w3
        try simp at hs_w3
        have hz_w3_w0 : w.heap.size < w3.heap.size := by omega
        have hy_w3_w0 : w.heap.size ≤ w3.heap.size := by omega
        have hx_w3_w0 : ∀ n : Nat, w.heap.size < w3.heap.size + n := by intro n; omega
        have hv_w3_w0 : ∀ n : Nat, w.heap.size ≤ w3.heap.size + n := by intro n; omega
        have hz_w3_w1 : w.heap.size + 1 < w3.heap.size := by omega
        have hy_w3_w1 : w.heap.size + 1 ≤ w3.heap.size := by omega
        have hx_w3_w1 : ∀ n : Nat, w.heap.size + 1 < w3.heap.size + n := by intro n; omega
        have hv_w3_w1 : ∀ n : Nat, w.heap.size + 1 ≤ w3.heap.size + n := by intro n; omega
        go_wp2
        go_ret2
        refine ⟨by first | rfl | (simp), ?_⟩
        repeat' (first | (with_reducible exact Below.refl _ _) | (with_reducible assumption) | (with_reducible refine Below.alloc ?_ ?_ _) | (with_reducible refine Below.drew ?_) | (with_reducible refine bdrewN ?_ _) | (with_reducible refine Below.setCell ?_ ?_ _) | (with_reducible refine bthen ?_ (by assumption) ?_) | go_size)
      · by_cases h4 : m ≤ 1000000
        · cases h5 : lessB p d q n m
          · have e : cmpM p d q n m = (1, 0) := by simp [cmpM, h1, h2, h3, h4, cmpV, h5]
            rw [e]; clear e
            have hI := cmpIn_of h1 h2 h3 h4
            have H5 := Lib.hid h5
            clear h5
            have H1 := Lib.hid h1
            have H2 := Lib.hid h2
            have H3 := Lib.hid h3
            clear h1 h2 h3
            go_enter Tryd.func34, Tryd.ntmps34
            go_wp2_with fail
            apply Calls.mono
            · with_reducible exact l07Ok_any _ _ _ true H1.out _
            rintro _ w1 ⟨rfl, hb_w1⟩
            obtain ⟨hc_w1, hf_w1, hs_w1⟩ := bcell hb_w1
            try simp at hs_w1
            have hz_w1_w0 : w.heap.size < w1.heap.size := by omega
            have hy_w1_w0 : w.heap.size ≤ w1.heap.size := by omega
            have hx_w1_w0 : ∀ n : Nat, w.heap.size < w1.heap.size + n := by intro n; omega
            have hv_w1_w0 : ∀ n : Nat, w.heap.size ≤ w1.heap.size + n := by intro n; omega
            have hz_w1_w1 : w.heap.size + 1 < w1.heap.size := by omega
            have hy_w1_w1 : w.heap.size + 1 ≤ w1.heap.size := by omega
            have hx_w1_w1 : ∀ n : Nat, w.heap.size + 1 < w1.heap.size + n := by intro n; omega
            have hv_w1_w1 : ∀ n : Nat, w.heap.size + 1 ≤ w1.heap.size + n := by intro n; omega
            go_wp2_with fail
            apply Calls.mono
            · with_reducible exact l02Ok_any _ _ true H2.out _
            rintro _ w2 ⟨rfl, hb_w2⟩
            obtain ⟨hc_w2, hf_w2, hs_w2⟩ := bcell hb_w2
            try simp at hs_w2
            have hz_w2_w0 : w.heap.size < w2.heap.size := by omega
            have hy_w2_w0 : w.heap.size ≤ w2.heap.size := by omega
            have hx_w2_w0 : ∀ n : Nat, w.heap.size < w2.heap.size + n := by intro n; omega
            have hv_w2_w0 : ∀ n : Nat, w.heap.size ≤ w2.heap.size + n := by intro n; omega
            have hz_w2_w1 : w.heap.size + 1 < w2.heap.size := by omega
            have hy_w2_w1 : w.heap.size + 1 ≤ w2.heap.size := by omega
            have hx_w2_w1 : ∀ n : Nat, w.heap.size + 1 < w2.heap.size + n := by intro n; omega
            have hv_w2_w1 : ∀ n : Nat, w.heap.size + 1 ≤ w2.heap.size + n := by intro n; omega
            go_wp2_with fail
            apply Calls.mono
            · with_reducible exact l00In_any _ _ _ true H3.out _
            rintro _ w3 ⟨rfl, hb_w3⟩
            obtain ⟨hc_w3, hf_w3, hs_w3⟩ := bcell hb_w3
            try simp at hs_w3
            have hz_w3_w0 : w.heap.size < w3.heap.size := by omega
            have hy_w3_w0 : w.heap.size ≤ w3.heap.size := by omega
            have hx_w3_w0 : ∀ n : Nat, w.heap.size < w3.heap.size + n := by intro n; omega
            have hv_w3_w0 : ∀ n : Nat, w.heap.size ≤ w3.heap.size + n := by intro n; omega
            have hz_w3_w1 : w.heap.size + 1 < w3.heap.size := by omega
            have hy_w3_w1 : w.heap.size + 1 ≤ w3.heap.size := by omega
            have hx_w3_w1 : ∀ n : Nat, w.heap.size + 1 < w3.heap.size + n := by intro n; omega
            have hv_w3_w1 : ∀ n : Nat, w.heap.size + 1 ≤ w3.heap.size + n := by intro n; omega
            go_wp2_with fail
            apply Calls.mono
            · with_reducible exact l07Less_any _ _ _ _ _ hI false H5.out _
            rintro _ w4 ⟨rfl, hb_w4⟩
            obtain ⟨hc_w4, hf_w4, hs_w4⟩ := bcell hb_w4
            try simp at hs_w4
            have hz_w4_w0 : w.heap.size < w4.heap.size := by omega
            have hy_w4_w0 : w.heap.size ≤ w4.heap.size := by omega
            have hx_w4_w0 : ∀ n : Nat, w.heap.size < w4.heap.size + n := by intro n; omega
            have hv_w4_w0 : ∀ n : Nat, w.heap.size ≤ w4.heap.size + n := by intro n; omega
            have hz_w4_w1 : w.heap.size + 1 < w4.heap.size := by omega
            have hy_w4_w1 : w.heap.size + 1 ≤ w4.heap.size := by omega
            have hx_w4_w1 : ∀ n : Nat, w.heap.size + 1 < w4.heap.size + n := by intro n; omega
            have hv_w4_w1 : ∀ n : Nat, w.heap.size + 1 ≤ w4.heap.size + n := by intro n; omega
            go_wp2
            go_ret2
            refine ⟨by first | rfl | (simp), ?_⟩
            repeat' (first | (with_reducible exact Below.refl _ _) | (with_reducible assumption) | (with_reducible refine Below.alloc ?_ ?_ _) | (with_reducible refine Below.drew ?_) | (with_reducible refine bdrewN ?_ _) | (with_reducible refine Below.setCell ?_ ?_ _) | (with_reducible refine bthen ?_ (by assumption) ?_) | go_size)
          · have e : cmpM p d q n m = (-1, 0) := by simp [cmpM, h1, h2, h3, h4, cmpV, h5]
            rw [e]; clear e
            have hI := cmpIn_of h1 h2 h3 h4
            have H5 := Lib.hid h5
            clear h5
            have H1 := Lib.hid h1
            have H2 := Lib.hid h2
            have H3 := Lib.hid h3
            clear h1 h2 h3
            go_enter Tryd.func34, Tryd.ntmps34
            go_wp2_with fail
            apply Calls.mono
            · with_reducible exact l07Ok_any _ _ _ true H1.out _
            rintro _ w1 ⟨rfl, hb_w1⟩
            obtain ⟨hc_w1, hf_w1, hs_w1⟩ := bcell hb_w1
            try simp at hs_w1
            have hz_w1_w0 : w.heap.size < w1.heap.size := by omega
            have hy_w1_w0 : w.heap.size ≤ w1.heap.size := by omega
            have hx_w1_w0 : ∀ n : Nat, w.heap.size < w1.heap.size + n := by intro n; omega
            have hv_w1_w0 : ∀ n : Nat, w.heap.size ≤ w1.heap.size + n := by intro n; omega
            have hz_w1_w1 : w.heap.size + 1 < w1.heap.size := by omega
            have hy_w1_w1 : w.heap.size + 1 ≤ w1.heap.size := by omega
            have hx_w1_w1 : ∀ n : Nat, w.heap.size + 1 < w1.heap.size + n := by intro n; omega
            have hv_w1_w1 : ∀ n : Nat, w.heap.size + 1 ≤ w1.heap.size + n := by intro n; omega
            go_wp2_with fail
            apply Calls.mono
            · with_reducible exact l02Ok_any _ _ true H2.out _
            rintro _ w2 ⟨rfl, hb_w2⟩
            obtain ⟨hc_w2, hf_w2, hs_w2⟩ := bcell hb_w2
            try simp at hs_w2
            have hz_w2_w0 : w.heap.size < w2.heap.size := by omega
            have hy_w2_w0 : w.heap.size ≤ w2.heap.size := by omega
            have hx_w2_w0 : ∀ n : Nat, w.heap.size < w2.heap.size + n := by intro n; omega
            have hv_w2_w0 : ∀ n : Nat, w.heap.size ≤ w2.heap.size + n := by intro n; omega
            have hz_w2_w1 : w.heap.size + 1 < w2.heap.size := by omega
            have hy_w2_w1 : w.heap.size + 1 ≤ w2.heap.size := by omega
            have hx_w2_w1 : ∀ n : Nat, w.heap.size + 1 < w2.heap.size + n := by intro n; omega
            have hv_w2_w1 : ∀ n : Nat, w.heap.size + 1 ≤ w2.heap.size + n := by intro n; omega
            go_wp2_with fail
            apply Calls.mono
            · with_reducible exact l00In_any _ _ _ true H3.out _
            rintro _ w3 ⟨rfl, hb_w3⟩
            obtain ⟨hc_w3, hf_w3, hs_w3⟩ := bcell hb_w3
            try simp at hs_w3
            have hz_w3_w0 : w.heap.size < w3.heap.size := by omega
            have hy_w3_w0 : w.heap.size ≤ w3.heap.size := by omega
            have hx_w3_w0 : ∀ n : Nat, w.heap.size < w3.heap.size + n := by intro n; omega
            have hv_w3_w0 : ∀ n : Nat, w.heap.size ≤ w3.heap.size + n := by intro n; omega
            have hz_w3_w1 : w.heap.size + 1 < w3.heap.size := by omega
            have hy_w3_w1 : w.heap.size + 1 ≤ w3.heap.size := by omega
            have hx_w3_w1 : ∀ n : Nat, w.heap.size + 1 < w3.heap.size + n := by intro n; omega
            have hv_w3_w1 : ∀ n : Nat, w.heap.size + 1 ≤ w3.heap.size + n := by intro n; omega
            go_wp2_with fail
            apply Calls.mono
            · with_reducible exact l07Less_any _ _ _ _ _ hI true H5.out _
            rintro _ w4 ⟨rfl, hb_w4⟩
            obtain ⟨hc_w4, hf_w4, hs_w4⟩ := bcell hb_w4
            try simp at hs_w4
            have hz_w4_w0 : w.heap.size < w4.heap.size := by omega
            have hy_w4_w0 : w.heap.size ≤ w4.heap.size := by omega
            have hx_w4_w0 : ∀ n : Nat, w.heap.size < w4.heap.size + n := by intro n; omega
            have hv_w4_w0 : ∀ n : Nat, w.heap.size ≤ w4.heap.size + n := by intro n; omega
            have hz_w4_w1 : w.heap.size + 1 < w4.heap.size := by omega
            have hy_w4_w1 : w.heap.size + 1 ≤ w4.heap.size := by omega
            have hx_w4_w1 : ∀ n : Nat, w.heap.size + 1 < w4.heap.size + n := by intro n; omega
            have hv_w4_w1 : ∀ n : Nat, w.heap.size + 1 ≤ w4.heap.size + n := by intro n; omega
            go_wp2
            go_ret2
            refine ⟨by first | rfl | (simp), ?_⟩
            repeat' (first | (with_reducible exact Below.refl _ _) | (with_reducible assumption) | (with_reducible refine Below.alloc ?_ ?_ _) | (with_reducible refine Below.drew ?_) | (with_reducible refine bdrewN ?_ _) | (with_reducible refine Below.setCell ?_ ?_ _) | (with_reducible refine bthen ?_ (by assumption) ?_) | go_size)
        · have e : cmpM p d q n m = (0, 2) := by simp [cmpM, h1, h2, h3, h4]
          rw [e]; clear e
          have H1 := Lib.hid h1
          have H2 := Lib.hid h2
          have H3 := Lib.hid h3
          clear h1 h2 h3
          go_enter Tryd.func34, Tryd.ntmps34
          go_wp2_with fail
          apply Calls.mono
          · with_reducible exact l07Ok_any _ _ _ true H1.out _
          rintro _ w1 ⟨rfl, hb_w1⟩
          obtain ⟨hc_w1, hf_w1, hs_w1⟩ := bcell hb_w1
          try simp at hs_w1
          have hz_w1_w0 : w.heap.size < w1.heap.size := by omega
          have hy_w1_w0 : w.heap.size ≤ w1.heap.size := by omega
          have hx_w1_w0 : ∀ n : Nat, w.heap.size < w1.heap.size + n := by intro n; omega
          have hv_w1_w0 : ∀ n : Nat, w.heap.size ≤ w1.heap.size + n := by intro n; omega
          have hz_w1_w1 : w.heap.size + 1 < w1.heap.size := by omega
          have hy_w1_w1 : w.heap.size + 1 ≤ w1.heap.size := by omega
          have hx_w1_w1 : ∀ n : Nat, w.heap.size + 1 < w1.heap.size + n := by intro n; omega
          have hv_w1_w1 : ∀ n : Nat, w.heap.size + 1 ≤ w1.heap.size + n := by intro n; omega
          go_wp2_with fail
          apply Calls.mono
          · with_reducible exact l02Ok_any _ _ true H2.out _
          rintro _ w2 ⟨rfl, hb_w2⟩
          obtain ⟨hc_w2, hf_w2, hs_w2⟩ := bcell hb_w2
          try simp at hs_w2
          have hz_w2_w0 : w.heap.size < w2.heap.size := by omega
          have hy_w2_w0 : w.heap.size ≤ w2.heap.size := by omega
          have hx_w2_w0 : ∀ n : Nat, w.heap.size < w2.heap.size + n := by intro n; omega
          have hv_w2_w0 : ∀ n : Nat, w.heap.size ≤ w2.heap.size + n := by intro n; omega
          have hz_w2_w1 : w.heap.size + 1 < w2.heap.size := by omega
          have hy_w2_w1 : w.heap.size + 1 ≤ w2.heap.size := by omega
          have hx_w2_w1 : ∀ n : Nat, w.heap.size + 1 < w2.heap.size + n := by intro n; omega
          have hv_w2_w1 : ∀ n : Nat, w.heap.size + 1 ≤ w2.heap.size + n := by intro n; omega
          go_wp2_with fail
          apply Calls.mono
          · with_reducible exact l00In_any _ _ _ true H3.out _
          rintro _ w3 ⟨rfl, hb_w3⟩
          obtain ⟨hc_w3, hf_w3, hs_w3⟩ := bcell hb_w3
          try simp at hs_w3
          have hz_w3_w0 : w.heap.size < w3.heap.size := by omega
          have hy_w3_w0 : w.heap.size ≤ w3.heap.size := by omega
          have hx_w3_w0 : ∀ n : Nat, w.heap.size < w3.heap.size + n := by intro n; omega
          have hv_w3_w0 : ∀ n : Nat, w.heap.size ≤ w3.heap.size + n := by intro n; omega
          have hz_w3_w1 : w.heap.size + 1 < w3.heap.size := by omega
          have hy_w3_w1 : w.heap.size + 1 ≤ w3.heap.size := by omega
          have hx_w3_w1 : ∀ n : Nat, w.heap.size + 1 < w3.heap.size + n := by intro n; omega
          have hv_w3_w1 : ∀ n : Nat, w.heap.size + 1 ≤ w3.heap.size + n := by intro n; omega
          go_wp2
          go_ret2
          refine ⟨by first | rfl | (simp), ?_⟩
          repeat' (first | (with_reducible exact Below.refl _ _) | (with_reducible assumption) | (with_reducible refine Below.alloc ?_ ?_ _) | (with_reducible refine Below.drew ?_) | (with_reducible refine bdrewN ?_ _) | (with_reducible refine Below.setCell ?_ ?_ _) | (with_reducible refine bthen ?_ (by assumption) ?_) | go_size)
def redB (p d q : Int) : Bool := !lessB p d q 1 1 && lessB (-p) d (-q) 0 1 && !lessB (-p) d (-q) (-1) 1
theorem cmp_in1 {p d q : Int} (h : okS p d q = true) : CmpIn p d q 1 1 ∧ CmpIn (-p) d (-q) 0 1 ∧ CmpIn (-p) d (-q) (-1) 1 := by
  obtain ⟨a1, a2, a3, a4, a5, a6, a7, _, _⟩ := okS_bd h
  refine ⟨?_, ?_, ?_⟩ <;> constructor <;> omega
end Go.Proofs.YtibbokllongomaaDoor
