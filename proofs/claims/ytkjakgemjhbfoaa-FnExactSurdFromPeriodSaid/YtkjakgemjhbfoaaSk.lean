/-
  The reference's matrices of lists of terms.
-/
import Derived.Test.YtkjakgemjhbfoaaUnitS
import Derived.Test.YtkjakgemjhbfoaaCnv
import Derived.Test.YtkjakgemjhbfoaaRow
namespace Go.Proofs.Ytkjakgemjhbfoaa
open Go.RowKit

set_option maxHeartbeats 1000000 in
theorem next_z (p q pp qq t : Int) (h1 : -1000000000 ≤ p) (h2 : p ≤ 1000000000) (h3 : -1000000000 ≤ q) (h4 : q ≤ 1000000000) (h5 : -1000000000 ≤ pp) (h6 : pp ≤ 1000000000) (h7 : -1000000000 ≤ qq) (h8 : qq ≤ 1000000000) (h9 : -1000000000 ≤ t) (h10 : t ≤ 1000000000) (x y : Int) (hx : t * p + pp = x) (hy : t * q + qq = y) (w : World) :
    Calls Try.prog 114 #[.agg #[.int .i64 p, .int .i64 q, .int .i64 pp, .int .i64 qq], .int .i64 t] w (Ret w (.agg #[.int .i64 x, .int .i64 y, .int .i64 p, .int .i64 q])) := by
  obtain ⟨m3, m4⟩ := mulb h9 h10 h1 h2
  obtain ⟨m5, m6⟩ := mulb h9 h10 h3 h4
  subst hx hy
  go_enter Try.func114, Try.ntmps114
  go_wp2
  refine bodyPost_ret (by simp [results, Try.results114, go_sem, *]; try rfl) rfl ?_
  refine ⟨by first | rfl | simp, ?_⟩
  repeat' (first | (with_reducible exact Below.refl _ _) | (with_reducible assumption) | (with_reducible refine Below.alloc ?_ ?_ _) | (with_reducible refine Below.drew ?_) | (with_reducible refine bdrewN ?_ _) | (with_reducible refine Below.setCell ?_ ?_ _) | (with_reducible refine bthen ?_ (by assumption) ?_) | go_size)
set_option maxHeartbeats 2000000 in
set_option maxRecDepth 100000 in
theorem l08Step_z (p q pp qq t : Int) (h1 : -1000000000 ≤ p) (h2 : p ≤ 1000000000) (h3 : -1000000000 ≤ q) (h4 : q ≤ 1000000000) (h5 : -1000000000 ≤ pp) (h6 : pp ≤ 1000000000) (h7 : -1000000000 ≤ qq) (h8 : qq ≤ 1000000000) (h9 : -1000000000 ≤ t) (h10 : t ≤ 1000000000) (x y : Int) (hx : t * p + pp = x) (hy : t * q + qq = y) (b : Bool) (hb : (decide ((x.natAbs : Int) ≤ 1000000000) && decide ((y.natAbs : Int) ≤ 1000000000)) = b) (w : World) :
    Calls Try.prog 103 #[.agg #[.int .i64 p, .int .i64 q, .int .i64 pp, .int .i64 qq], .int .i64 t] w (Ret w (.tuple #[.agg #[.int .i64 x, .int .i64 y, .int .i64 p, .int .i64 q], .bool b])) := by
  have kN := fun w => next_z p q pp qq t h1 h2 h3 h4 h5 h6 h7 h8 h9 h10 x y hx hy w
  have m1 := mulb h9 h10 h1 h2
  have m2 := mulb h9 h10 h3 h4
  have x1 : -2000000000000000000 ≤ x ∧ x ≤ 2000000000000000000 := by omega
  have y1 : -2000000000000000000 ≤ y ∧ y ≤ 2000000000000000000 := by omega
  have kX := fun w => size_still x (by omega) (by omega) w
  have kY := fun w => size_still y (by omega) (by omega) w
  obtain ⟨a, ha⟩ : ∃ a : Int, (x.natAbs : Int) = a := ⟨_, rfl⟩
  obtain ⟨c, hc⟩ : ∃ c : Int, (y.natAbs : Int) = c := ⟨_, rfl⟩
  rw [ha] at hb kX
  rw [hc] at hb kY
  clear hx hy m1 m2 ha hc h1 h2 h3 h4 h5 h6 h7 h8 h9 h10 x1 y1
  cases ha2 : decide (a ≤ 1000000000)
  · obtain rfl : false = b := by rw [← hb, ha2]; rfl
    have hna : ¬ a ≤ 1000000000 := of_decide_eq_false ha2
    clear hb kY ha2
    go_enter Try.func103, Try.ntmps103
    go_wp2_with fail
    apply Calls.mono
    · with_reducible exact kN _
    rintro _ w1 ⟨rfl, hb_w1⟩
    obtain ⟨hc_w1, hf_w1, hs_w1⟩ := bcell hb_w1
    try simp at hs_w1
    have hz_w1_w0 : w.heap.size < w1.heap.size := by omega
    have hy_w1_w0 : w.heap.size ≤ w1.heap.size := by omega
    have hx_w1_w0 : ∀ n : Nat, w.heap.size < w1.heap.size + n := by intro n; omega
    have hv_w1_w0 : ∀ n : Nat, w.heap.size ≤ w1.heap.size + n := by intro n; omega
    have hz_w1_w1 : w.heap.size + 1 < w1.heap.size := by omega
    have hy_w1_w1 : w.heap.size + 1 ≤ w1.heap.size := by omega
    have hx_w1_w1 : ∀ n : Nat, w.heap.size + 1 < w1.heap.size + n := by intro n; omega
    have hv_w1_w1 : ∀ n : Nat, w.heap.size + 1 ≤ w1.heap.size + n := by intro n; omega
    go_wp2_with fail
    first | go_region_with (go_at_call_of 92 (Value.int .i64 x); refine (kX _).mono ?_; rintro _ w2 ⟨rfl, rfl⟩) | fail
    all_goals go_wp2
    all_goals
      refine bodyPost_ret (by simp [results, Try.results103, go_sem, *]; try rfl) rfl ?_
      refine ⟨by first | rfl | simp, ?_⟩
      repeat' (first | (with_reducible exact Below.refl _ _) | (with_reducible assumption) | (with_reducible refine Below.alloc ?_ ?_ _) | (with_reducible refine Below.drew ?_) | (with_reducible refine bdrewN ?_ _) | (with_reducible refine Below.setCell ?_ ?_ _) | (with_reducible refine bthen ?_ (by assumption) ?_) | go_size)
  · have hpa : a ≤ 1000000000 := of_decide_eq_true ha2
    clear ha2
    cases hc2 : decide (c ≤ 1000000000)
    · obtain rfl : false = b := by rw [← hb, hc2, Bool.and_false]
      have hnc : ¬ c ≤ 1000000000 := of_decide_eq_false hc2
      clear hb hc2
      go_enter Try.func103, Try.ntmps103
      go_wp2_with fail
      apply Calls.mono
      · with_reducible exact kN _
      rintro _ w1 ⟨rfl, hb_w1⟩
      obtain ⟨hc_w1, hf_w1, hs_w1⟩ := bcell hb_w1
      try simp at hs_w1
      have hz_w1_w0 : w.heap.size < w1.heap.size := by omega
      have hy_w1_w0 : w.heap.size ≤ w1.heap.size := by omega
      have hx_w1_w0 : ∀ n : Nat, w.heap.size < w1.heap.size + n := by intro n; omega
      have hv_w1_w0 : ∀ n : Nat, w.heap.size ≤ w1.heap.size + n := by intro n; omega
      have hz_w1_w1 : w.heap.size + 1 < w1.heap.size := by omega
      have hy_w1_w1 : w.heap.size + 1 ≤ w1.heap.size := by omega
      have hx_w1_w1 : ∀ n : Nat, w.heap.size + 1 < w1.heap.size + n := by intro n; omega
      have hv_w1_w1 : ∀ n : Nat, w.heap.size + 1 ≤ w1.heap.size + n := by intro n; omega
      go_wp2_with fail
      go_region_held3 (fun w' => w'.cell? ⟨w1.heap.size, 0, none⟩ = some (.int .i64 x) ∧ w'.cell? ⟨w1.heap.size, 1, none⟩ = some (.int .i64 y) ∧ w'.cell? ⟨w1.heap.size, 2, none⟩ = some (.int .i64 p) ∧ w'.cell? ⟨w1.heap.size, 3, none⟩ = some (.int .i64 q)) (first | (exact new_cells _ _ _ _ _ _ _ (by simp only [World.size_setCell])) | (exact new_cells _ _ _ _ _ _ _ rfl) | go_keep) (first | (go_at_call_of 92 (Value.int .i64 x); refine (kX _).mono ?_; rintro _ w2 ⟨rfl, rfl⟩) | (go_at_call_of 92 (Value.int .i64 y); refine (kY _).mono ?_; rintro _ w2 ⟨rfl, rfl⟩))
      all_goals go_wp2
      all_goals refine bodyPost_ret (by simp [results, Try.results103, go_sem, *]; try rfl) rfl ?_
      all_goals refine ⟨by first | rfl | (simp; omega), ?_⟩
      all_goals repeat' (first | (with_reducible exact Below.refl _ _) | (with_reducible assumption) | (with_reducible refine Below.alloc ?_ ?_ _) | (with_reducible refine Below.drew ?_) | (with_reducible refine bdrewN ?_ _) | (with_reducible refine Below.setCell ?_ ?_ _) | (with_reducible refine bthen ?_ (by assumption) ?_) | go_size)
    · have hpc : c ≤ 1000000000 := of_decide_eq_true hc2
      obtain rfl : true = b := by rw [← hb, hc2, decide_eq_true hpa]; rfl
      clear hb hc2
      go_enter Try.func103, Try.ntmps103
      go_wp2_with fail
      apply Calls.mono
      · with_reducible exact kN _
      rintro _ w1 ⟨rfl, hb_w1⟩
      obtain ⟨hc_w1, hf_w1, hs_w1⟩ := bcell hb_w1
      try simp at hs_w1
      have hz_w1_w0 : w.heap.size < w1.heap.size := by omega
      have hy_w1_w0 : w.heap.size ≤ w1.heap.size := by omega
      have hx_w1_w0 : ∀ n : Nat, w.heap.size < w1.heap.size + n := by intro n; omega
      have hv_w1_w0 : ∀ n : Nat, w.heap.size ≤ w1.heap.size + n := by intro n; omega
      have hz_w1_w1 : w.heap.size + 1 < w1.heap.size := by omega
      have hy_w1_w1 : w.heap.size + 1 ≤ w1.heap.size := by omega
      have hx_w1_w1 : ∀ n : Nat, w.heap.size + 1 < w1.heap.size + n := by intro n; omega
      have hv_w1_w1 : ∀ n : Nat, w.heap.size + 1 ≤ w1.heap.size + n := by intro n; omega
      go_wp2_with fail
      go_region_held3 (fun w' => w'.cell? ⟨w1.heap.size, 0, none⟩ = some (.int .i64 x) ∧ w'.cell? ⟨w1.heap.size, 1, none⟩ = some (.int .i64 y) ∧ w'.cell? ⟨w1.heap.size, 2, none⟩ = some (.int .i64 p) ∧ w'.cell? ⟨w1.heap.size, 3, none⟩ = some (.int .i64 q)) (first | (exact new_cells _ _ _ _ _ _ _ (by simp only [World.size_setCell])) | (exact new_cells _ _ _ _ _ _ _ rfl) | go_keep) (first | (go_at_call_of 92 (Value.int .i64 x); refine (kX _).mono ?_; rintro _ w2 ⟨rfl, rfl⟩) | (go_at_call_of 92 (Value.int .i64 y); refine (kY _).mono ?_; rintro _ w2 ⟨rfl, rfl⟩))
      all_goals go_wp2
      all_goals
        refine bodyPost_ret (by simp [results, Try.results103, go_sem, *]; try rfl) rfl ?_
        refine ⟨by first | rfl | simp, ?_⟩
        repeat' (first | (with_reducible exact Below.refl _ _) | (with_reducible assumption) | (with_reducible refine Below.alloc ?_ ?_ _) | (with_reducible refine Below.drew ?_) | (with_reducible refine bdrewN ?_ _) | (with_reducible refine Below.setCell ?_ ?_ _) | (with_reducible refine bthen ?_ (by assumption) ?_) | go_size)
end Go.Proofs.Ytkjakgemjhbfoaa
