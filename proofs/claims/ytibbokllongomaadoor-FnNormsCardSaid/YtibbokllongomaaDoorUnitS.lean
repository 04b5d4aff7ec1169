/-
  The least solution with 1 or -1: the reference's way along the convergents.
-/
import Derived.Test.YtibbokllongomaaDoorUnit
import Derived.Deep.RegionHeld3
namespace Go.Proofs.YtibbokllongomaaDoor
open Go.RowKit

theorem l03New_any (w : World) : Calls Tryd.prog 106 #[] w (Ret w (.agg #[.int .i64 1, .int .i64 0, .int .i64 0, .int .i64 1])) := by
  go_enter Tryd.func106, Tryd.ntmps106
  go_wp2
  refine bodyPost_ret (by simp [results, Tryd.results106, go_sem, *]; try rfl) rfl ?_
  refine ⟨by first | rfl | simp, ?_⟩
  repeat' (first | (with_reducible exact Below.refl _ _) | (with_reducible assumption) | (with_reducible refine Below.alloc ?_ ?_ _) | (with_reducible refine Below.drew ?_) | (with_reducible refine bdrewN ?_ _) | (with_reducible refine Below.setCell ?_ ?_ _) | (with_reducible refine bthen ?_ (by assumption) ?_) | go_size)
set_option maxHeartbeats 1000000 in
theorem next_any (p q pp qq t : Int) (h1 : 0 ≤ p) (h2 : p ≤ 1000000000) (h3 : 0 ≤ q) (h4 : q ≤ 1000000000) (h5 : 0 ≤ pp) (h6 : pp ≤ 1000000000) (h7 : 0 ≤ qq) (h8 : qq ≤ 1000000000) (h9 : 0 ≤ t) (h10 : t ≤ 1000000000) (x y : Int) (hx : t * p + pp = x) (hy : t * q + qq = y) (w : World) :
    Calls Tryd.prog 123 #[.agg #[.int .i64 p, .int .i64 q, .int .i64 pp, .int .i64 qq], .int .i64 t] w (Ret w (.agg #[.int .i64 x, .int .i64 y, .int .i64 p, .int .i64 q])) := by
  have m1 : 0 ≤ t * p ∧ t * p ≤ 1000000000000000000 := ⟨Int.mul_nonneg h9 h1, by have := Int.mul_le_mul h10 h2 h1 (by omega); omega⟩
  have m2 : 0 ≤ t * q ∧ t * q ≤ 1000000000000000000 := ⟨Int.mul_nonneg h9 h3, by have := Int.mul_le_mul h10 h4 h3 (by omega); omega⟩
  obtain ⟨m3, m4⟩ := m1
  obtain ⟨m5, m6⟩ := m2
  subst hx hy
  go_enter Tryd.func123, Tryd.ntmps123
  go_wp2
  refine bodyPost_ret (by simp [results, Tryd.results123, go_sem, *]; try rfl) rfl ?_
  refine ⟨by first | rfl | simp, ?_⟩
  repeat' (first | (with_reducible exact Below.refl _ _) | (with_reducible assumption) | (with_reducible refine Below.alloc ?_ ?_ _) | (with_reducible refine Below.drew ?_) | (with_reducible refine bdrewN ?_ _) | (with_reducible refine Below.setCell ?_ ?_ _) | (with_reducible refine bthen ?_ (by assumption) ?_) | go_size)
theorem size_still (n : Int) (h1 : -9000000000000000000 ≤ n) (h2 : n ≤ 9000000000000000000) (w : World) : Calls Tryd.prog 90 #[.int .i64 n] w (fun e w'' => e = .returned (.int .i64 n.natAbs) ∧ w'' = w) := by
  by_cases h : n < 0
  · have e : (n.natAbs : Int) = -n := by omega
    rw [e]; clear e
    go_enter Tryd.func90, Tryd.ntmps90
    go_wp2
    go_ret
    exact ⟨rfl, rfl⟩
  · have e : (n.natAbs : Int) = n := by omega
    rw [e]; clear e
    go_enter Tryd.func90, Tryd.ntmps90
    go_wp2
    go_ret
    exact ⟨rfl, rfl⟩
theorem new_cells (W : World) (t : TypeId) (B : Nat) (x y p q : Value) (hB : W.heap.size = B) : ((W.alloc (.cells #[x, y, p, q] t)).drew).cell? ⟨B, 0, none⟩ = some x ∧ ((W.alloc (.cells #[x, y, p, q] t)).drew).cell? ⟨B, 1, none⟩ = some y ∧ ((W.alloc (.cells #[x, y, p, q] t)).drew).cell? ⟨B, 2, none⟩ = some p ∧ ((W.alloc (.cells #[x, y, p, q] t)).drew).cell? ⟨B, 3, none⟩ = some q := by
  subst hB
  have h := (Blk.new W t #[x, y, p, q]).drew
  exact ⟨h.cell 0, h.cell 1, h.cell 2, h.cell 3⟩
set_option maxHeartbeats 2000000 in
set_option maxRecDepth 100000 in
theorem l08Step_any (p q pp qq t : Int) (h1 : 0 ≤ p) (h2 : p ≤ 1000000000) (h3 : 0 ≤ q) (h4 : q ≤ 1000000000) (h5 : 0 ≤ pp) (h6 : pp ≤ 1000000000) (h7 : 0 ≤ qq) (h8 : qq ≤ 1000000000) (h9 : 0 ≤ t) (h10 : t ≤ 1000000000) (x y : Int) (hx : t * p + pp = x) (hy : t * q + qq = y) (b : Bool) (hb : (decide ((x.natAbs : Int) ≤ 1000000000) && decide ((y.natAbs : Int) ≤ 1000000000)) = b) (w : World) :
    Calls Tryd.prog 107 #[.agg #[.int .i64 p, .int .i64 q, .int .i64 pp, .int .i64 qq], .int .i64 t] w (Ret w (.tuple #[.agg #[.int .i64 x, .int .i64 y, .int .i64 p, .int .i64 q], .bool b])) := by
  have kN := fun w => next_any p q pp qq t h1 h2 h3 h4 h5 h6 h7 h8 h9 h10 x y hx hy w
  have m1 : 0 ≤ t * p ∧ t * p ≤ 1000000000000000000 := ⟨Int.mul_nonneg h9 h1, by have := Int.mul_le_mul h10 h2 h1 (by omega); omega⟩
  have m2 : 0 ≤ t * q ∧ t * q ≤ 1000000000000000000 := ⟨Int.mul_nonneg h9 h3, by have := Int.mul_le_mul h10 h4 h3 (by omega); omega⟩
  have x1 : 0 ≤ x ∧ x ≤ 2000000000000000000 := by omega
  have y1 : 0 ≤ y ∧ y ≤ 2000000000000000000 := by omega
  have kX := fun w => size_still x (by omega) (by omega) w
  have kY := fun w => size_still y (by omega) (by omega) w
  obtain ⟨a, ha⟩ : ∃ a : Int, (x.natAbs : Int) = a := ⟨_, rfl⟩
  obtain ⟨c, hc⟩ : ∃ c : Int, (y.natAbs : Int) = c := ⟨_, rfl⟩
  rw [ha] at hb kX
  rw [hc] at hb kY
  clear hx hy m1 m2 ha hc h1 h2 h3 h4 h5 h6 h7 h8 h9 h10 x1 y1
  cases ha2 : decide (a ≤ 1000000000)
  · obtain rfl : false = b := by rw [← hb, ha2]; rfl
    have hna : ¬ a ≤ 1000000000 := of_decide_eq_false ha2
    clear hb kY ha2
    go_enter Tryd.func107, Tryd.ntmps107
    go_wp2_with fail
    apply Calls.mono
    · with_reducible exact kN _
    rintro _ w1 ⟨rfl, hb_w1⟩
    obtain ⟨hc_w1, hf_w1, hs_w1⟩ := bcell hb_w1
    try simp at hs_w1
    have hz_w1_w0 : w.heap.size < w1.heap.size := by omega
    have hy_w1_w0 : w.heap.size ≤ w1.heap.size := by omega
    have hx_w1_w0 : ∀ n : Nat, w.heap.size < w1.heap.size + n := by intro n; omega
    have hv_w1_w0 : ∀ n : Nat, w.heap.size ≤ w1.heap.size + n := by intro n; omega
    have hz_w1_w1 : w.heap.size + 1 < w1.heap.size := by omega
    have hy_w1_w1 : w.heap.size + 1 ≤ w1.heap.size := by omega
    have hx_w1_w1 : ∀ n : Nat, w.heap.size + 1 < w1.heap.size + n := by intro n; omega
    have hv_w1_w1 : ∀ n : Nat, w.heap.size + 1 ≤ w1.heap.size + n := by intro n; omega
    go_wp2_with fail
    first | go_region_with (go_at_call_of 90 (Value.int .i64 x); refine (kX _).mono ?_; rintro _ w2 ⟨rfl, rfl⟩) | fail
    all_goals go_wp2
    all_goals
      refine bodyPost_ret (by simp [results, Tryd.results107, go_sem, *]; try rfl) rfl ?_
      refine ⟨by first | rfl | simp, ?_⟩
      repeat' (first | (with_reducible exact Below.refl _ _) | (with_reducible assumption) | (with_reducible refine Below.alloc ?_ ?_ _) | (with_reducible refine Below.drew ?_) | (with_reducible refine bdrewN ?_ _) | (with_reducible refine Below.setCell ?_ ?_ _) | (with_reducible refine bthen ?_ (by assumption) ?_) | go_size)
  · have hpa : a ≤ 1000000000 := of_decide_eq_true ha2
    clear ha2
    cases hc2 : decide (c ≤ 1000000000)
    · obtain rfl : false = b := by rw [← hb, hc2, Bool.and_false]
      have hnc : ¬ c ≤ 1000000000 := of_decide_eq_false hc2
      clear hb hc2
      go_enter Tryd.func107, Tryd.ntmps107
      go_wp2_with fail
      apply Calls.mono
      · with_reducible exact kN _
      rintro _ w1 ⟨rfl, hb_w1⟩
      obtain ⟨hc_w1, hf_w1, hs_w1⟩ := bcell hb_w1
      try simp at hs_w1
      have hz_w1_w0 : w.heap.size < w1.heap.size := by omega
      have hy_w1_w0 : w.heap.size ≤ w1.heap.size := by omega
      have hx_w1_w0 : ∀ n : Nat, w.heap.size < w1.heap.size + n := by intro n; omega
      have hv_w1_w0 : ∀ n : Nat, w.heap.size ≤ w1.heap.size + n := by intro n; omega
      have hz_w1_w1 : w.heap.size + 1 < w1.heap.size := by omega
      have hy_w1_w1 : w.heap.size + 1 ≤ w1.heap.size := by omega
      have hx_w1_w1 : ∀ n : Nat, w.heap.size + 1 < w1.heap.size + n := by intro n; omega
      have hv_w1_w1 : ∀ n : Nat, w.heap.size + 1 ≤ w1.heap.size + n := by intro n; omega
      go_wp2_with fail
      go_region_held3 (fun w' => w'.cell? ⟨w1.heap.size, 0, none⟩ = some (.int .i64 x) ∧ w'.cell? ⟨w1.heap.size, 1, none⟩ = some (.int .i64 y) ∧ w'.cell? ⟨w1.heap.size, 2, none⟩ = some (.int .i64 p) ∧ w'.cell? ⟨w1.heap.size, 3, none⟩ = some (.int .i64 q)) (first | (exact new_cells _ _ _ _ _ _ _ (by simp only [World.size_setCell])) | (exact new_cells _ _ _ _ _ _ _ rfl) | go_keep) (first | (go_at_call_of 90 (Value.int .i64 x); refine (kX _).mono ?_; rintro _ w2 ⟨rfl, rfl⟩) | (go_at_call_of 90 (Value.int .i64 y); refine (kY _).mono ?_; rintro _ w2 ⟨rfl, rfl⟩))
      all_goals go_wp2
      all_goals refine bodyPost_ret (by simp [results, Tryd.results107, go_sem, *]; try rfl) rfl ?_
      all_goals refine ⟨by first | rfl | (simp; omega), ?_⟩
      all_goals repeat' (first | (with_reducible exact Below.refl _ _) | (with_reducible assumption) | (with_reducible refine Below.alloc ?_ ?_ _) | (with_reducible refine Below.drew ?_) | (with_reducible refine bdrewN ?_ _) | (with_reducible refine Below.setCell ?_ ?_ _) | (with_reducible refine bthen ?_ (by assumption) ?_) | go_size)
    · have hpc : c ≤ 1000000000 := of_decide_eq_true hc2
      obtain rfl : true = b := by rw [← hb, hc2, decide_eq_true hpa]; rfl
      clear hb hc2
      go_enter Tryd.func107, Tryd.ntmps107
      go_wp2_with fail
      apply Calls.mono
      · with_reducible exact kN _
      rintro _ w1 ⟨rfl, hb_w1⟩
      obtain ⟨hc_w1, hf_w1, hs_w1⟩ := bcell hb_w1
      try simp at hs_w1
      have hz_w1_w0 : w.heap.size < w1.heap.size := by omega
      have hy_w1_w0 : w.heap.size ≤ w1.heap.size := by omega
      have hx_w1_w0 : ∀ n : Nat, w.heap.size < w1.heap.size + n := by intro n; omega
      have hv_w1_w0 : ∀ n : Nat, w.heap.size ≤ w1.heap.size + n := by intro n; omega
      have hz_w1_w1 : w.heap.size + 1 < w1.heap.size := by omega
      have hy_w1_w1 : w.heap.size + 1 ≤ w1.heap.size := by omega
      have hx_w1_w1 : ∀ n : Nat, w.heap.size + 1 < w1.heap.size + n := by intro n; omega
      have hv_w1_w1 : ∀ n : Nat, w.heap.size + 1 ≤ w1.heap.size + n := by intro n; omega
      go_wp2_with fail
      go_region_held3 (fun w' => w'.cell? ⟨w1.heap.size, 0, none⟩ = some (.int .i64 x) ∧ w'.cell? ⟨w1.heap.size, 1, none⟩ = some (.int .i64 y) ∧ w'.cell? ⟨w1.heap.size, 2, none⟩ = some (.int .i64 p) ∧ w'.cell? ⟨w1.heap.size, 3, none⟩ = some (.int .i64 q)) (first | (exact new_cells _ _ _ _ _ _ _ (by simp only [World.size_setCell])) | (exact new_cells _ _ _ _ _ _ _ rfl) | go_keep) (first | (go_at_call_of 90 (Value.int .i64 x); refine (kX _).mono ?_; rintro _ w2 ⟨rfl, rfl⟩) | (go_at_call_of 90 (Value.int .i64 y); refine (kY _).mono ?_; rintro _ w2 ⟨rfl, rfl⟩))
      all_goals go_wp2
      all_goals
        refine bodyPost_ret (by simp [results, Tryd.results107, go_sem, *]; try rfl) rfl ?_
        refine ⟨by first | rfl | simp, ?_⟩
        repeat' (first | (with_reducible exact Below.refl _ _) | (with_reducible assumption) | (with_reducible refine Below.alloc ?_ ?_ _) | (with_reducible refine Below.drew ?_) | (with_reducible refine bdrewN ?_ _) | (with_reducible refine Below.setCell ?_ ?_ _) | (with_reducible refine bthen ?_ (by assumption) ?_) | go_size)
end Go.Proofs.YtibbokllongomaaDoor
