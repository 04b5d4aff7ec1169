/-
  Products of pairs, both packages.
-/
import Derived.Test.YtibbokllongomaaDoorPell
import Derived.Test.YtibbokllongomaaDoorFrac
import Derived.Deep.RegionWith
namespace Go.Proofs.YtibbokllongomaaDoor
open Go.RowKit

def bigF (a b : Int) : Bool := if a = 0 then true else decide ((b.natAbs : Int) ≤ (1000000000000000000 : Int).tdiv (a.natAbs : Int))
theorem big_iff {a b : Int} : bigF a b = true ↔ a.natAbs * b.natAbs ≤ 1000000000000000000 := by
  unfold bigF
  by_cases h : a = 0
  · rw [if_pos h]; subst h; simp
  · rw [if_neg h, decide_eq_true_iff]
    have e : (1000000000000000000 : Int).tdiv (a.natAbs : Int) = ((1000000000000000000 / a.natAbs : Nat) : Int) := rfl
    rw [e, Int.ofNat_le, Nat.le_div_iff_mul_le (by omega), Nat.mul_comm]
theorem big_true {a b : Int} (h1 : -1000000000 ≤ a) (h2 : a ≤ 1000000000) (h3 : -1000000000 ≤ b) (h4 : b ≤ 1000000000) : bigF a b = true := by
  rw [big_iff]
  exact Nat.le_trans (Nat.mul_le_mul (show a.natAbs ≤ 1000000000 by omega) (show b.natAbs ≤ 1000000000 by omega)) (by omega)
theorem l08Big_any (a b : Int) (h1 : -9000000000000000000 ≤ a) (h2 : a ≤ 9000000000000000000) (h3 : -9000000000000000000 ≤ b) (h4 : b ≤ 9000000000000000000) (r : Bool) (hr : bigF a b = r) (w : World) : Calls Tryd.prog 109 #[.int .i64 a, .int .i64 b] w (Ret w (.bool r)) := by
  unfold bigF at hr
  by_cases h : a = 0
  · rw [if_pos h] at hr
    subst hr
    subst h
    go_enter Tryd.func109, Tryd.ntmps109
    go_wp2
    go_ret
    refine ⟨by first | rfl | (simp), ?_⟩
    repeat' (first | (with_reducible exact Below.refl _ _) | (with_reducible assumption) | (with_reducible refine Below.alloc ?_ ?_ _) | (with_reducible refine Below.drew ?_) | (with_reducible refine bdrewN ?_ _) | (with_reducible refine Below.setCell ?_ ?_ _) | (with_reducible refine bthen ?_ (by assumption) ?_) | go_size)
  · rw [if_neg h] at hr
    subst hr
    have e : (a == 0) = false := by simp [h]
    have ha : 1 ≤ (a.natAbs : Int) := by omega
    obtain ⟨t1, t2⟩ := q18 ha
    go_enter Tryd.func109, Tryd.ntmps109
    go_wp2_with fail
    apply Calls.mono
    · with_reducible exact l02Size_any _ h3 h4 _
    rintro _ w1 ⟨rfl, hb_w1⟩
    obtain ⟨hc_w1, hf_w1, hs_w1⟩ := bcell hb_w1
    try simp at hs_w1
    go_wp2_with fail
    apply Calls.mono
    · with_reducible exact l02Size_any _ h1 h2 _
    rintro _ w2 ⟨rfl, hb_w2⟩
    obtain ⟨hc_w2, hf_w2, hs_w2⟩ := bcell hb_w2
    try simp at hs_w2
    go_wp2
    go_ret
    refine ⟨by first | rfl | (simp), ?_⟩
    repeat' (first | (with_reducible exact Below.refl _ _) | (with_reducible assumption) | (with_reducible refine Below.alloc ?_ ?_ _) | (with_reducible refine Below.drew ?_) | (with_reducible refine bdrewN ?_ _) | (with_reducible refine Below.setCell ?_ ?_ _) | (with_reducible refine bthen ?_ (by assumption) ?_) | go_size)
/-- The product of two pairs; its test ahead. -/
def mxP (d x y z t : Int) : Int := x * z + d * y * t
def myP (x y z t : Int) : Int := x * t + y * z
def fitP (d y t : Int) : Bool := bigF (d * (y.natAbs : Int)) t
theorem fit_iff {d y t : Int} (hd : 1 ≤ d) : fitP d y t = true ↔ ((y * t).natAbs : Int) ≤ (1000000000000000000 : Int).tdiv d := by
  unfold fitP
  rw [big_iff]
  obtain ⟨k, rfl⟩ := Int.eq_ofNat_of_zero_le (show 0 ≤ d by omega)
  have e : (1000000000000000000 : Int).tdiv (k : Int) = ((1000000000000000000 / k : Nat) : Int) := rfl
  rw [e, Int.ofNat_le, Nat.le_div_iff_mul_le (by omega), Int.natAbs_mul, Int.natAbs_mul]
  have e1 : ((k : Nat) : Int).natAbs = k := rfl
  have e2 : ((y.natAbs : Nat) : Int).natAbs = y.natAbs := rfl
  rw [e1, e2, Nat.mul_assoc, Nat.mul_comm k]

theorem mul_facts {d x y z t : Int} (hd : 2 ≤ d) (hd2 : d ≤ 10000) (h1 : okP d x y = true) (h2 : okP d z t = true) :
    (-1000000000000000000 ≤ x * z ∧ x * z ≤ 1000000000000000000) ∧ (-1000000000000000000 ≤ x * t ∧ x * t ≤ 1000000000000000000) ∧ (-1000000000000000000 ≤ y * z ∧ y * z ≤ 1000000000000000000) ∧ (-1000000000000000000 ≤ y * t ∧ y * t ≤ 1000000000000000000) ∧ (-10000000000000 ≤ d * y ∧ d * y ≤ 10000000000000) ∧ (0 ≤ d * (y.natAbs : Int) ∧ d * (y.natAbs : Int) ≤ 10000000000000) := by
  obtain ⟨⟨a1, a2⟩, ⟨a3, a4⟩, _, ⟨a5, a6⟩, _⟩ := okP_bd hd hd2 h1
  obtain ⟨⟨b1, b2⟩, ⟨b3, b4⟩, _, _, _⟩ := okP_bd hd hd2 h2
  have m1 := @mul_bd x z 1000000000 1000000000 (by omega) (by omega) (by omega) (by omega)
  have m2 := @mul_bd x t 1000000000 1000000000 (by omega) (by omega) (by omega) (by omega)
  have m3 := @mul_bd y z 1000000000 1000000000 (by omega) (by omega) (by omega) (by omega)
  have m4 := @mul_bd y t 1000000000 1000000000 (by omega) (by omega) (by omega) (by omega)
  have m5 := @mul_bd d (y.natAbs : Int) 10000 1000000000 (by omega) (by omega) (by omega) (by omega)
  have m6 := Int.mul_nonneg (show 0 ≤ d by omega) (show 0 ≤ (y.natAbs : Int) by omega)
  exact ⟨⟨by omega, by omega⟩, ⟨by omega, by omega⟩, ⟨by omega, by omega⟩, ⟨by omega, by omega⟩, ⟨a5, a6⟩, ⟨m6, by omega⟩⟩
theorem fit_bd {d y t : Int} (h : fitP d y t = true) : -1000000000000000000 ≤ d * y * t ∧ d * y * t ≤ 1000000000000000000 := by
  unfold fitP at h
  rw [big_iff, Int.natAbs_mul] at h
  have e2 : ((y.natAbs : Nat) : Int).natAbs = y.natAbs := rfl
  rw [e2, ← Int.natAbs_mul, ← Int.natAbs_mul] at h
  omega
set_option maxHeartbeats 2000000 in
theorem mulPairs_any (d x y z t : Int) (hd : 2 ≤ d) (hd2 : d ≤ 10000) (h1 : okP d x y = true) (h2 : okP d z t = true) (w : World) :
    Calls Tryd.prog 51 #[.int .i64 d, .agg #[.int .i64 x, .int .i64 y], .agg #[.int .i64 z, .int .i64 t]] w
      (Ret w (.tuple #[.agg #[.int .i64 (if fitP d y t && okP d (mxP d x y z t) (myP x y z t) then mxP d x y z t else 0), .int .i64 (if fitP d y t && okP d (mxP d x y z t) (myP x y z t) then myP x y z t else 0)], .bool (fitP d y t && okP d (mxP d x y z t) (myP x y z t))])) := by
  obtain ⟨⟨a1, a2⟩, ⟨a3, a4⟩, ⟨a5, a6⟩, ⟨a7, a8⟩, ⟨a9, a10⟩, _⟩ := mul_facts hd hd2 h1 h2
  obtain ⟨q1, q2⟩ := q18 (show 1 ≤ d by omega)
  have hfi := fit_iff (d := d) (y := y) (t := t) (by omega)
  obtain ⟨A, hA⟩ : ∃ A : Int, A = ((y * t).natAbs : Int) := ⟨_, rfl⟩
  have kA : ∀ w, Calls Tryd.prog 83 #[.int .i64 (y * t)] w (Ret w (.int .i64 A)) := fun w => by rw [hA]; exact abs_any (y * t) (by omega) (by omega) w
  have hA0 : 0 ≤ A := by omega
  have hA1 : A ≤ 1000000000000000000 := by omega
  rw [← hA] at hfi
  clear hA h1 h2
  cases hf : fitP d y t
  · have hgt : (1000000000000000000 : Int).tdiv d < A := by
      rw [hf] at hfi
      have : ¬ A ≤ (1000000000000000000 : Int).tdiv d := fun h => by have := hfi.2 h; cases this
      omega
    clear hfi hf
    simp only [Bool.false_and, Bool.false_eq_true, if_false]
    go_enter Tryd.func51, Tryd.ntmps51
    go_wp2_with fail
    refine wp_region_calm (by kernel_rfl) (by kernel_rfl) ?_
    repeat (go_big_quiet_step ((with_reducible exact calm (kA _))))
    refine wpQuiet_nil ?_
    intro w1 hb_w1
    obtain ⟨hc_w1, hf_w1, hs_w1⟩ := bcell hb_w1
    try simp at hs_w1
    have hz_w1_w0 : w.heap.size < w1.heap.size := by omega
    have hy_w1_w0 : w.heap.size ≤ w1.heap.size := by omega
    have hx_w1_w0 : ∀ n : Nat, w.heap.size < w1.heap.size + n := by intro n; omega
    have hv_w1_w0 : ∀ n : Nat, w.heap.size ≤ w1.heap.size + n := by intro n; omega
    have hz_w1_w1 : w.heap.size + 1 < w1.heap.size := by omega
    have hy_w1_w1 : w.heap.size + 1 ≤ w1.heap.size := by omega
    have hx_w1_w1 : ∀ n : Nat, w.heap.size + 1 < w1.heap.size + n := by intro n; omega
    have hv_w1_w1 : ∀ n : Nat, w.heap.size + 1 ≤ w1.heap.size + n := by intro n; omega
    have hz_w1_w2 : w.heap.size + 2 < w1.heap.size := by omega
    have hy_w1_w2 : w.heap.size + 2 ≤ w1.heap.size := by omega
    have hx_w1_w2 : ∀ n : Nat, w.heap.size + 2 < w1.heap.size + n := by intro n; omega
    have hv_w1_w2 : ∀ n : Nat, w.heap.size + 2 ≤ w1.heap.size + n := by intro n; omega
    go_wp2
    refine bodyPost_ret (by simp [results, Tryd.results51, go_sem, *]; try rfl) rfl ?_
    refine ⟨by first | rfl | simp, ?_⟩
    repeat' (first | (with_reducible exact Below.refl _ _) | (with_reducible assumption) | (with_reducible refine Below.alloc ?_ ?_ _) | (with_reducible refine Below.drew ?_) | (with_reducible refine bdrewN ?_ _) | (with_reducible refine Below.setCell ?_ ?_ _) | (with_reducible refine bthen ?_ (by assumption) ?_) | go_size)
  · have hle : A ≤ (1000000000000000000 : Int).tdiv d := hfi.1 hf
    obtain ⟨f1, f2⟩ := fit_bd hf
    clear hfi hf
    have e1 : x * z + d * y * t = mxP d x y z t := rfl
    have e2 : x * t + y * z = myP x y z t := rfl
    have b1 : -2000000000000000000 ≤ mxP d x y z t ∧ mxP d x y z t ≤ 2000000000000000000 := by unfold mxP; omega
    have b2 : -2000000000000000000 ≤ myP x y z t ∧ myP x y z t ≤ 2000000000000000000 := by unfold myP; omega
    generalize mxP d x y z t = X at *
    generalize myP x y z t = Y at *
    cases ho : okP d X Y
    · simp only [Bool.and_false, Bool.false_eq_true, if_false]
      have HO := Lib.hid ho
      clear ho
      go_enter Tryd.func51, Tryd.ntmps51
      go_wp2_with fail
      refine wp_region_calm (by kernel_rfl) (by kernel_rfl) ?_
      repeat (go_big_quiet_step ((with_reducible exact calm (kA _))))
      refine wpQuiet_nil ?_
      intro w1 hb_w1
      obtain ⟨hc_w1, hf_w1, hs_w1⟩ := bcell hb_w1
      try simp at hs_w1
      have hz_w1_w0 : w.heap.size < w1.heap.size := by omega
      have hy_w1_w0 : w.heap.size ≤ w1.heap.size := by omega
      have hx_w1_w0 : ∀ n : Nat, w.heap.size < w1.heap.size + n := by intro n; omega
      have hv_w1_w0 : ∀ n : Nat, w.heap.size ≤ w1.heap.size + n := by intro n; omega
      have hz_w1_w1 : w.heap.size + 1 < w1.heap.size := by omega
      have hy_w1_w1 : w.heap.size + 1 ≤ w1.heap.size := by omega
      have hx_w1_w1 : ∀ n : Nat, w.heap.size + 1 < w1.heap.size + n := by intro n; omega
      have hv_w1_w1 : ∀ n : Nat, w.heap.size + 1 ≤ w1.heap.size + n := by intro n; omega
      have hz_w1_w2 : w.heap.size + 2 < w1.heap.size := by omega
      have hy_w1_w2 : w.heap.size + 2 ≤ w1.heap.size := by omega
      have hx_w1_w2 : ∀ n : Nat, w.heap.size + 2 < w1.heap.size + n := by intro n; omega
      have hv_w1_w2 : ∀ n : Nat, w.heap.size + 2 ≤ w1.heap.size + n := by intro n; omega
      go_wp2_with fail
      apply Calls.mono
      · with_reducible exact isPlainPair_any _ _ _ (by omega) hd2 false HO.out _
      rintro _ w2 ⟨rfl, hb_w2⟩
      obtain ⟨hc_w2, hf_w2, hs_w2⟩ := bcell hb_w2
      try simp at hs_w2
      have hz_w2_w0 : w.heap.size < w2.heap.size := by omega
      have hy_w2_w0 : w.heap.size ≤ w2.heap.size := by omega
      have hx_w2_w0 : ∀ n : Nat, w.heap.size < w2.heap.size + n := by intro n; omega
      have hv_w2_w0 : ∀ n : Nat, w.heap.size ≤ w2.heap.size + n := by intro n; omega
      have hz_w2_w1 : w.heap.size + 1 < w2.heap.size := by omega
      have hy_w2_w1 : w.heap.size + 1 ≤ w2.heap.size := by omega
      have hx_w2_w1 : ∀ n : Nat, w.heap.size + 1 < w2.heap.size + n := by intro n; omega
      have hv_w2_w1 : ∀ n : Nat, w.heap.size + 1 ≤ w2.heap.size + n := by intro n; omega
      have hz_w2_w2 : w.heap.size + 2 < w2.heap.size := by omega
      have hy_w2_w2 : w.heap.size + 2 ≤ w2.heap.size := by omega
      have hx_w2_w2 : ∀ n : Nat, w.heap.size + 2 < w2.heap.size + n := by intro n; omega
      have hv_w2_w2 : ∀ n : Nat, w.heap.size + 2 ≤ w2.heap.size + n := by intro n; omega
      have hz_w2_w10 : w1.heap.size < w2.heap.size := by omega
      have hy_w2_w10 : w1.heap.size ≤ w2.heap.size := by omega
      have hx_w2_w10 : ∀ n : Nat, w1.heap.size < w2.heap.size + n := by intro n; omega
      have hv_w2_w10 : ∀ n : Nat, w1.heap.size ≤ w2.heap.size + n := by intro n; omega
      go_wp2
      refine bodyPost_ret (by simp [results, Tryd.results51, go_sem, *]; try rfl) rfl ?_
      refine ⟨by first | rfl | simp, ?_⟩
      repeat' (first | (with_reducible exact Below.refl _ _) | (with_reducible assumption) | (with_reducible refine Below.alloc ?_ ?_ _) | (with_reducible refine Below.drew ?_) | (with_reducible refine bdrewN ?_ _) | (with_reducible refine Below.setCell ?_ ?_ _) | (with_reducible refine bthen ?_ (by assumption) ?_) | go_size)
    · simp only [Bool.and_true, if_true]
      have HO := Lib.hid ho
      clear ho
      go_enter Tryd.func51, Tryd.ntmps51
      go_wp2_with fail
      refine wp_region_calm (by kernel_rfl) (by kernel_rfl) ?_
      repeat (go_big_quiet_step ((with_reducible exact calm (kA _))))
      refine wpQuiet_nil ?_
      intro w1 hb_w1
      obtain ⟨hc_w1, hf_w1, hs_w1⟩ := bcell hb_w1
      try simp at hs_w1
      have hz_w1_w0 : w.heap.size < w1.heap.size := by omega
      have hy_w1_w0 : w.heap.size ≤ w1.heap.size := by omega
      have hx_w1_w0 : ∀ n : Nat, w.heap.size < w1.heap.size + n := by intro n; omega
      have hv_w1_w0 : ∀ n : Nat, w.heap.size ≤ w1.heap.size + n := by intro n; omega
      have hz_w1_w1 : w.heap.size + 1 < w1.heap.size := by omega
      have hy_w1_w1 : w.heap.size + 1 ≤ w1.heap.size := by omega
      have hx_w1_w1 : ∀ n : Nat, w.heap.size + 1 < w1.heap.size + n := by intro n; omega
      have hv_w1_w1 : ∀ n : Nat, w.heap.size + 1 ≤ w1.heap.size + n := by intro n; omega
      have hz_w1_w2 : w.heap.size + 2 < w1.heap.size := by omega
      have hy_w1_w2 : w.heap.size + 2 ≤ w1.heap.size := by omega
      have hx_w1_w2 : ∀ n : Nat, w.heap.size + 2 < w1.heap.size + n := by intro n; omega
      have hv_w1_w2 : ∀ n : Nat, w.heap.size + 2 ≤ w1.heap.size + n := by intro n; omega
      go_wp2_with fail
      apply Calls.mono
      · with_reducible exact isPlainPair_any _ _ _ (by omega) hd2 true HO.out _
      rintro _ w2 ⟨rfl, hb_w2⟩
      obtain ⟨hc_w2, hf_w2, hs_w2⟩ := bcell hb_w2
      try simp at hs_w2
      have hz_w2_w0 : w.heap.size < w2.heap.size := by omega
      have hy_w2_w0 : w.heap.size ≤ w2.heap.size := by omega
      have hx_w2_w0 : ∀ n : Nat, w.heap.size < w2.heap.size + n := by intro n; omega
      have hv_w2_w0 : ∀ n : Nat, w.heap.size ≤ w2.heap.size + n := by intro n; omega
      have hz_w2_w1 : w.heap.size + 1 < w2.heap.size := by omega
      have hy_w2_w1 : w.heap.size + 1 ≤ w2.heap.size := by omega
      have hx_w2_w1 : ∀ n : Nat, w.heap.size + 1 < w2.heap.size + n := by intro n; omega
      have hv_w2_w1 : ∀ n : Nat, w.heap.size + 1 ≤ w2.heap.size + n := by intro n; omega
      have hz_w2_w2 : w.heap.size + 2 < w2.heap.size := by omega
      have hy_w2_w2 : w.heap.size + 2 ≤ w2.heap.size := by omega
      have hx_w2_w2 : ∀ n : Nat, w.heap.size + 2 < w2.heap.size + n := by intro n; omega
      have hv_w2_w2 : ∀ n : Nat, w.heap.size + 2 ≤ w2.heap.size + n := by intro n; omega
      have hz_w2_w10 : w1.heap.size < w2.heap.size := by omega
      have hy_w2_w10 : w1.heap.size ≤ w2.heap.size := by omega
      have hx_w2_w10 : ∀ n : Nat, w1.heap.size < w2.heap.size + n := by intro n; omega
      have hv_w2_w10 : ∀ n : Nat, w1.heap.size ≤ w2.heap.size + n := by intro n; omega
      go_wp2
      refine bodyPost_ret (by simp [results, Tryd.results51, go_sem, *]; try rfl) rfl ?_
      refine ⟨by first | rfl | simp, ?_⟩
      repeat' (first | (with_reducible exact Below.refl _ _) | (with_reducible assumption) | (with_reducible refine Below.alloc ?_ ?_ _) | (with_reducible refine Below.drew ?_) | (with_reducible refine bdrewN ?_ _) | (with_reducible refine Below.setCell ?_ ?_ _) | (with_reducible refine bthen ?_ (by assumption) ?_) | go_size)
set_option maxHeartbeats 4000000 in
theorem l09Mul_any (d x y z t : Int) (hd : 2 ≤ d) (hd2 : d ≤ 10000) (h1 : okP d x y = true) (h2 : okP d z t = true) (w : World) :
    Calls Tryd.prog 87 #[.int .i64 d, .agg #[.int .i64 x, .int .i64 y], .agg #[.int .i64 z, .int .i64 t]] w
      (Ret w (.tuple #[.agg #[.int .i64 (if fitP d y t then mxP d x y z t else 0), .int .i64 (if fitP d y t then myP x y z t else 0)], .bool (fitP d y t && okP d (mxP d x y z t) (myP x y z t))])) := by
  obtain ⟨⟨a1, a2⟩, ⟨a3, a4⟩, ⟨a5, a6⟩, ⟨a7, a8⟩, ⟨a9, a10⟩, a11, a12⟩ := mul_facts hd hd2 h1 h2
  obtain ⟨⟨x1, x2⟩, ⟨y1, y2⟩, _⟩ := okP_bd hd hd2 h1
  obtain ⟨⟨z1, z2⟩, ⟨t1, t2⟩, _⟩ := okP_bd hd hd2 h2
  have kb1 : ∀ w, Calls Tryd.prog 109 #[.int .i64 x, .int .i64 z] w (Ret w (.bool true)) := fun w => l08Big_any x z (by omega) (by omega) (by omega) (by omega) true (big_true x1 x2 z1 z2) w
  have kb3 : ∀ w, Calls Tryd.prog 109 #[.int .i64 x, .int .i64 t] w (Ret w (.bool true)) := fun w => l08Big_any x t (by omega) (by omega) (by omega) (by omega) true (big_true x1 x2 t1 t2) w
  have kb4 : ∀ w, Calls Tryd.prog 109 #[.int .i64 y, .int .i64 z] w (Ret w (.bool true)) := fun w => l08Big_any y z (by omega) (by omega) (by omega) (by omega) true (big_true y1 y2 z1 z2) w
  obtain ⟨A, hA⟩ : ∃ A : Int, A = (y.natAbs : Int) := ⟨_, rfl⟩
  have kS : ∀ w, Calls Tryd.prog 90 #[.int .i64 y] w (Ret w (.int .i64 A)) := fun w => by rw [hA]; exact l02Size_any y (by omega) (by omega) w
  have kb2 : ∀ r, fitP d y t = r → ∀ w, Calls Tryd.prog 109 #[.int .i64 (d * A), .int .i64 t] w (Ret w (.bool r)) := fun r hr w => by
    rw [hA]; exact l08Big_any _ _ (by omega) (by omega) (by omega) (by omega) r hr w
  rw [← hA] at a11 a12
  clear hA h1 h2
  cases hf : fitP d y t
  · have k2 := kb2 false hf
    clear kb2 hf
    simp only [Bool.false_and, Bool.false_eq_true, if_false]
    go_enter Tryd.func87, Tryd.ntmps87
    go_wp2_with fail
    refine wp_region_calm (by kernel_rfl) (by kernel_rfl) ?_
    repeat (go_big_quiet_step ((first | with_reducible exact calm (kb1 _) | with_reducible exact calm (kS _) | with_reducible exact calm (k2 _))))
    refine wpQuiet_nil ?_
    intro w1 hb_w1
    obtain ⟨hc_w1, hf_w1, hs_w1⟩ := bcell hb_w1
    try simp at hs_w1
    have hz_w1_w0 : w.heap.size < w1.heap.size := by omega
    have hy_w1_w0 : w.heap.size ≤ w1.heap.size := by omega
    have hx_w1_w0 : ∀ n : Nat, w.heap.size < w1.heap.size + n := by intro n; omega
    have hv_w1_w0 : ∀ n : Nat, w.heap.size ≤ w1.heap.size + n := by intro n; omega
    have hz_w1_w1 : w.heap.size + 1 < w1.heap.size := by omega
    have hy_w1_w1 : w.heap.size + 1 ≤ w1.heap.size := by omega
    have hx_w1_w1 : ∀ n : Nat, w.heap.size + 1 < w1.heap.size + n := by intro n; omega
    have hv_w1_w1 : ∀ n : Nat, w.heap.size + 1 ≤ w1.heap.size + n := by intro n; omega
    have hz_w1_w2 : w.heap.size + 2 < w1.heap.size := by omega
    have hy_w1_w2 : w.heap.size + 2 ≤ w1.heap.size := by omega
    have hx_w1_w2 : ∀ n : Nat, w.heap.size + 2 < w1.heap.size + n := by intro n; omega
    have hv_w1_w2 : ∀ n : Nat, w.heap.size + 2 ≤ w1.heap.size + n := by intro n; omega
    go_wp2
    refine bodyPost_ret (by simp [results, Tryd.results87, go_sem, *]; try rfl) rfl ?_
    refine ⟨by first | rfl | simp, ?_⟩
    repeat' (first | (with_reducible exact Below.refl _ _) | (with_reducible assumption) | (with_reducible refine Below.alloc ?_ ?_ _) | (with_reducible refine Below.drew ?_) | (with_reducible refine bdrewN ?_ _) | (with_reducible refine Below.setCell ?_ ?_ _) | (with_reducible refine bthen ?_ (by assumption) ?_) | go_size)
  · have k2 := kb2 true hf
    obtain ⟨f1, f2⟩ := fit_bd hf
    clear kb2 hf
    simp only [Bool.true_and, if_true]
    have e1 : x * z + d * y * t = mxP d x y z t := rfl
    have e2 : x * t + y * z = myP x y z t := rfl
    have b1 : -2000000000000000000 ≤ mxP d x y z t ∧ mxP d x y z t ≤ 2000000000000000000 := by unfold mxP; omega
    have b2 : -2000000000000000000 ≤ myP x y z t ∧ myP x y z t ≤ 2000000000000000000 := by unfold myP; omega
    generalize mxP d x y z t = X at *
    generalize myP x y z t = Y at *
    generalize ho : okP d X Y = b
    have HO := Lib.hid ho
    clear ho
    go_enter Tryd.func87, Tryd.ntmps87
    go_wp2_with fail
    refine wp_region_calm (by kernel_rfl) (by kernel_rfl) ?_
    repeat (go_big_quiet_step ((first | with_reducible exact calm (kb1 _) | with_reducible exact calm (kS _) | with_reducible exact calm (k2 _) | with_reducible exact calm (kb3 _) | with_reducible exact calm (kb4 _))))
    refine wpQuiet_nil ?_
    intro w1 hb_w1
    obtain ⟨hc_w1, hf_w1, hs_w1⟩ := bcell hb_w1
    try simp at hs_w1
    have hz_w1_w0 : w.heap.size < w1.heap.size := by omega
    have hy_w1_w0 : w.heap.size ≤ w1.heap.size := by omega
    have hx_w1_w0 : ∀ n : Nat, w.heap.size < w1.heap.size + n := by intro n; omega
    have hv_w1_w0 : ∀ n : Nat, w.heap.size ≤ w1.heap.size + n := by intro n; omega
    have hz_w1_w1 : w.heap.size + 1 < w1.heap.size := by omega
    have hy_w1_w1 : w.heap.size + 1 ≤ w1.heap.size := by omega
    have hx_w1_w1 : ∀ n : Nat, w.heap.size + 1 < w1.heap.size + n := by intro n; omega
    have hv_w1_w1 : ∀ n : Nat, w.heap.size + 1 ≤ w1.heap.size + n := by intro n; omega
    have hz_w1_w2 : w.heap.size + 2 < w1.heap.size := by omega
    have hy_w1_w2 : w.heap.size + 2 ≤ w1.heap.size := by omega
    have hx_w1_w2 : ∀ n : Nat, w.heap.size + 2 < w1.heap.size + n := by intro n; omega
    have hv_w1_w2 : ∀ n : Nat, w.heap.size + 2 ≤ w1.heap.size + n := by intro n; omega
    go_wp2_with fail
    go_region_with (go_at_call 108; refine (l09Ok_any _ _ _ (by omega) hd2 b HO.out _).mono ?_; rintro _ w2 ⟨rfl, hb_w2⟩; have hc_w2 := (bcell hb_w2).1; have hf_w2 := (bcell hb_w2).2.1; have hs_w2 : w1.heap.size + 1 ≤ w2.heap.size := Nat.le_trans (by first | (simp; done) | (simp; omega)) hb_w2.size; have z1 : w.heap.size < w2.heap.size := Nat.lt_of_lt_of_le hz_w1_w0 (Nat.le_of_succ_le hs_w2); have z2 : w.heap.size + 1 < w2.heap.size := Nat.lt_of_lt_of_le hz_w1_w1 (Nat.le_of_succ_le hs_w2); have z2' : w.heap.size + 2 < w2.heap.size := Nat.lt_of_lt_of_le hz_w1_w2 (Nat.le_of_succ_le hs_w2); have z3 : w1.heap.size < w2.heap.size := hs_w2)
    all_goals go_wp2
    all_goals
      refine bodyPost_ret (by simp [results, Tryd.results87, go_sem, *]; try rfl) rfl ?_
      refine ⟨by first | rfl | simp, ?_⟩
      repeat' (first | (with_reducible exact Below.refl _ _) | (with_reducible assumption) | (with_reducible refine Below.alloc ?_ ?_ _) | (with_reducible refine Below.drew ?_) | (with_reducible refine bdrewN ?_ _) | (with_reducible refine Below.setCell ?_ ?_ _) | (with_reducible refine bthen ?_ (by assumption) ?_) | go_size)
end Go.Proofs.YtibbokllongomaaDoor
