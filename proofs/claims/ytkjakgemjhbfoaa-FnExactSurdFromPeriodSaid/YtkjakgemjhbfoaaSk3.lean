/-
  The surd of a period, and a term ahead of a surd: the reference's ways.
-/
import Derived.Test.YtkjakgemjhbfoaaSf1
import Derived.Test.YtkjakgemjhbfoaaMul
namespace Go.Proofs.Ytkjakgemjhbfoaa
open Go.RowKit

theorem res3 (w : World) (t : TypeId) (o : Obj) {w2 : World} (hb : Below (((w.alloc (.cells #[.int .i64 0, .int .i64 0, .int .i64 0] t)).alloc o).drew).heap.size (((w.alloc (.cells #[.int .i64 0, .int .i64 0, .int .i64 0] t)).alloc o).drew) w2) :
    w2.cell? ⟨w.heap.size, 0, none⟩ = some (.int .i64 0) ∧ w2.cell? ⟨w.heap.size, 1, none⟩ = some (.int .i64 0) ∧ w2.cell? ⟨w.heap.size, 2, none⟩ = some (.int .i64 0) ∧ w2.frozen? ⟨w.heap.size, 0, none⟩ = false ∧ w2.frozen? ⟨w.heap.size, 1, none⟩ = false ∧ w2.frozen? ⟨w.heap.size, 2, none⟩ = false := by
  have h := (((Blk.new w t #[.int .i64 0, .int .i64 0, .int .i64 0]).alloc o).drew).below hb (by show w.heap.size < ((w.alloc _).alloc _).heap.size; rw [World.size_alloc, World.size_alloc]; omega)
  exact ⟨h.cell 0, h.cell 1, h.cell 2, h.frozen 0, h.frozen 1, h.frozen 2⟩
set_option maxHeartbeats 2000000 in
set_option maxRecDepth 100000 in
theorem l08Plain_raw (p d q P D Q : Int) (b1 : -1000000 ≤ p) (b2 : p ≤ 1000000) (b3 : -10000000000000 ≤ d) (b4 : d ≤ 10000000000000) (b5 : -1000000 ≤ q) (b6 : q ≤ 1000000) (hq : q ≠ 0) (he : q.tmod 2 = 0) (hf : ((d - p * p).tdiv q).tmod 2 = 0)
    (h0 : p.tmod 2 = 0 → p.tdiv 2 = P ∧ d.tdiv 4 = D ∧ q.tdiv 2 = Q) (h1 : p.tmod 2 ≠ 0 → p = P ∧ d = D ∧ q = Q) (r : Bool) (hr : okS P D Q = r) (w : World) :
    Calls Try.prog 105 #[.int .i64 p, .int .i64 d, .int .i64 q] w (Ret w (.tuple #[.agg #[.int .i64 P, .int .i64 D, .int .i64 Q], .bool r])) := by
  have kO := fun w => l07Ok_any P D Q r hr w
  obtain ⟨m1, m2⟩ := mulb (a := p) (b := p) (by omega) (by omega) (by omega) (by omega)
  clear hr
  by_cases hp : p.tmod 2 = 0
  · obtain ⟨e1, e2, e3⟩ := h0 hp
    have t1 : P.natAbs = p.natAbs / 2 := by rw [← e1]; exact Int.natAbs_tdiv _ _
    have t2 : D.natAbs = d.natAbs / 4 := by rw [← e2]; exact Int.natAbs_tdiv _ _
    have t3 : Q.natAbs = q.natAbs / 2 := by rw [← e3]; exact Int.natAbs_tdiv _ _
    have bP : -1000000 ≤ P ∧ P ≤ 1000000 := by omega
    have bD : -10000000000000 ≤ D ∧ D ≤ 10000000000000 := by omega
    have bQ : -1000000 ≤ Q ∧ Q ≤ 1000000 := by omega
    clear t1 t2 t3 h0 h1
    have hxb : ((d - p * p).tdiv q).natAbs ≤ 2000000000000000000 := by
      rw [Int.natAbs_tdiv]
      exact Nat.le_trans (Nat.div_le_self _ _) (by omega)
    generalize hx : (d - p * p).tdiv q = x at *
    have hxc : -2000000000000000000 ≤ x ∧ x ≤ 2000000000000000000 := by omega
    go_enter Try.func105, Try.ntmps105
    go_wp2_with fail
    all_goals go_region_with (go_at_call 64; refine (kO _).mono ?_; rintro _ w2 ⟨rfl, hb_w2⟩; obtain ⟨r0, r1, r2, r3, r4, r5⟩ := res3 w _ _ hb_w2; have hc_w2 := (bcell hb_w2).1; have hf_w2 := (bcell hb_w2).2.1; have z1 : w.heap.size + 2 ≤ w2.heap.size := Nat.le_trans (by first | (simp; done) | (simp; omega)) hb_w2.size; have z2 : w.heap.size < w2.heap.size := Nat.lt_of_lt_of_le (Nat.lt_succ_of_lt (Nat.lt_succ_self _)) z1; have z3 : w.heap.size + 1 < w2.heap.size := Nat.lt_of_lt_of_le (Nat.lt_succ_self _) z1)
    all_goals go_wp2
    all_goals
      refine bodyPost_ret (by simp [results, Try.results105, go_sem, *]; try rfl) rfl ?_
      refine ⟨by first | rfl | simp, ?_⟩
      repeat' (first | (with_reducible exact Below.refl _ _) | (with_reducible assumption) | (with_reducible refine Below.alloc ?_ ?_ _) | (with_reducible refine Below.drew ?_) | (with_reducible refine bdrewN ?_ _) | (with_reducible refine Below.setCell ?_ ?_ _) | (with_reducible refine bthen ?_ (by assumption) ?_) | go_size)
  · obtain ⟨rfl, rfl, rfl⟩ := h1 hp
    clear h0 h1
    have hxb : ((d - p * p).tdiv q).natAbs ≤ 2000000000000000000 := by
      rw [Int.natAbs_tdiv]
      exact Nat.le_trans (Nat.div_le_self _ _) (by omega)
    generalize hx : (d - p * p).tdiv q = x at *
    have hxc : -2000000000000000000 ≤ x ∧ x ≤ 2000000000000000000 := by omega
    go_enter Try.func105, Try.ntmps105
    go_wp2_with fail
    all_goals go_region_with (go_at_call 64; refine (kO _).mono ?_; rintro _ w2 ⟨rfl, hb_w2⟩; obtain ⟨r0, r1, r2, r3, r4, r5⟩ := res3 w _ _ hb_w2; have hc_w2 := (bcell hb_w2).1; have hf_w2 := (bcell hb_w2).2.1; have z1 : w.heap.size + 2 ≤ w2.heap.size := Nat.le_trans (by first | (simp; done) | (simp; omega)) hb_w2.size; have z2 : w.heap.size < w2.heap.size := Nat.lt_of_lt_of_le (Nat.lt_succ_of_lt (Nat.lt_succ_self _)) z1; have z3 : w.heap.size + 1 < w2.heap.size := Nat.lt_of_lt_of_le (Nat.lt_succ_self _) z1)
    all_goals go_wp2
    all_goals
      refine bodyPost_ret (by simp [results, Try.results105, go_sem, *]; try rfl) rfl ?_
      refine ⟨by first | rfl | simp, ?_⟩
      repeat' (first | (with_reducible exact Below.refl _ _) | (with_reducible assumption) | (with_reducible refine Below.alloc ?_ ?_ _) | (with_reducible refine Below.drew ?_) | (with_reducible refine bdrewN ?_ _) | (with_reducible refine Below.setCell ?_ ?_ _) | (with_reducible refine bthen ?_ (by assumption) ?_) | go_size)
set_option maxHeartbeats 2000000 in
set_option maxRecDepth 100000 in
theorem l08Head_any (d : Int) (y : Int × Int) (h : okX d y = true) (t : Int) (t1 : -1000000000 ≤ t) (t2 : t ≤ 1000000000) (w : World) :
    Calls Try.prog 77 #[.agg #[.int .i64 y.1, .int .i64 d, .int .i64 y.2], .int .i64 t] w (fun e w' => ∃ a b c : Int, e = .returned (.tuple #[.agg #[.int .i64 a, .int .i64 b, .int .i64 c], .bool (okX d (t * blX d y - y.1, blX d y))]) ∧ (okX d (t * blX d y - y.1, blX d y) = true → a = t * blX d y - y.1 ∧ b = d ∧ c = blX d y) ∧ Below w.heap.size w w') := by
  have hbb := blX_bd h
  obtain ⟨d1, d2, d3, d4, d5, d6, d7, -⟩ := okS_bd h
  obtain ⟨m1, m2⟩ := mulb (a := y.1) (b := y.1) (by omega) (by omega) (by omega) (by omega)
  have hbx : (d - y.1 * y.1).tdiv y.2 = blX d y := rfl
  generalize blX d y = b at *
  generalize y.1 = y1 at *
  generalize y.2 = y2 at *
  clear h
  cases hin : inB b (-1000000) 1000000
  · have hq : okX d (t * b - y1, b) = false := by unfold okX okS; rw [hin]; simp
    rw [hq]
    have kI := fun w => l00In_any b (-1000000) 1000000 false hin w
    clear hin hq
    go_enter Try.func77, Try.ntmps77
    go_wp2_with fail
    apply Calls.mono
    · with_reducible exact kI _
    rintro _ w1 ⟨rfl, hb_w1⟩
    obtain ⟨hc_w1, hf_w1, hs_w1⟩ := bcell hb_w1
    try simp at hs_w1
    have hz_w1_w0 : w.heap.size < w1.heap.size := by omega
    have hy_w1_w0 : w.heap.size ≤ w1.heap.size := by omega
    have hx_w1_w0 : ∀ n : Nat, w.heap.size < w1.heap.size + n := by intro n; omega
    have hv_w1_w0 : ∀ n : Nat, w.heap.size ≤ w1.heap.size + n := by intro n; omega
    have hz_w1_w1 : w.heap.size + 1 < w1.heap.size := by omega
    have hy_w1_w1 : w.heap.size + 1 ≤ w1.heap.size := by omega
    have hx_w1_w1 : ∀ n : Nat, w.heap.size + 1 < w1.heap.size + n := by intro n; omega
    have hv_w1_w1 : ∀ n : Nat, w.heap.size + 1 ≤ w1.heap.size + n := by intro n; omega
    go_wp2
    refine bodyPost_ret (by simp [results, Try.results77, go_sem, *]; try rfl) rfl ?_
    refine ⟨0, 0, 0, rfl, fun h => absurd h (by decide), ?_⟩
    repeat' (first | (with_reducible exact Below.refl _ _) | (with_reducible assumption) | (with_reducible refine Below.alloc ?_ ?_ _) | (with_reducible refine Below.drew ?_) | (with_reducible refine bdrewN ?_ _) | (with_reducible refine Below.setCell ?_ ?_ _) | (with_reducible refine bthen ?_ (by assumption) ?_) | go_size)
  · obtain ⟨n1, n2⟩ := inB_iff.1 hin
    have kI := fun w => l00In_any b (-1000000) 1000000 true hin w
    obtain ⟨m3, m4⟩ := mulb (a := t) (b := b) (by omega) (by omega) (by omega) (by omega)
    have kB := fun w => l08Big_any t b (by omega) (by omega) (by omega) (by omega) true (big_true t1 t2 (by omega) (by omega)) w
    obtain ⟨r, hr⟩ : ∃ r, okX d (t * b - y1, b) = r := ⟨_, rfl⟩
    have kO := fun w => l07Ok_any (t * b - y1) d b r hr w
    rw [hr]
    have hx : -y1 + t * b = t * b - y1 := by omega
    clear hin hr
    go_enter Try.func77, Try.ntmps77
    go_wp2_with fail
    apply Calls.mono
    · with_reducible exact kI _
    rintro _ w1 ⟨rfl, hb_w1⟩
    obtain ⟨hc_w1, hf_w1, hs_w1⟩ := bcell hb_w1
    try simp at hs_w1
    have hz_w1_w0 : w.heap.size < w1.heap.size := by omega
    have hy_w1_w0 : w.heap.size ≤ w1.heap.size := by omega
    have hx_w1_w0 : ∀ n : Nat, w.heap.size < w1.heap.size + n := by intro n; omega
    have hv_w1_w0 : ∀ n : Nat, w.heap.size ≤ w1.heap.size + n := by intro n; omega
    have hz_w1_w1 : w.heap.size + 1 < w1.heap.size := by omega
    have hy_w1_w1 : w.heap.size + 1 ≤ w1.heap.size := by omega
    have hx_w1_w1 : ∀ n : Nat, w.heap.size + 1 < w1.heap.size + n := by intro n; omega
    have hv_w1_w1 : ∀ n : Nat, w.heap.size + 1 ≤ w1.heap.size + n := by intro n; omega
    go_wp2_with fail
    apply Calls.mono
    · with_reducible exact kB _
    rintro _ w2 ⟨rfl, hb_w2⟩
    obtain ⟨hc_w2, hf_w2, hs_w2⟩ := bcell hb_w2
    try simp at hs_w2
    have hz_w2_w0 : w.heap.size < w2.heap.size := by omega
    have hy_w2_w0 : w.heap.size ≤ w2.heap.size := by omega
    have hx_w2_w0 : ∀ n : Nat, w.heap.size < w2.heap.size + n := by intro n; omega
    have hv_w2_w0 : ∀ n : Nat, w.heap.size ≤ w2.heap.size + n := by intro n; omega
    have hz_w2_w1 : w.heap.size + 1 < w2.heap.size := by omega
    have hy_w2_w1 : w.heap.size + 1 ≤ w2.heap.size := by omega
    have hx_w2_w1 : ∀ n : Nat, w.heap.size + 1 < w2.heap.size + n := by intro n; omega
    have hv_w2_w1 : ∀ n : Nat, w.heap.size + 1 ≤ w2.heap.size + n := by intro n; omega
    have zz : w.heap.size + 2 ≤ w2.heap.size := by omega
    go_wp2_with fail
    go_region_with (go_at_call 64; refine (kO _).mono ?_; rintro _ w3 ⟨rfl, hb_w3⟩; have hc_w3 := (bcell hb_w3).1; have hf_w3 := (bcell hb_w3).2.1; have s1 : w2.heap.size + 1 ≤ w3.heap.size := Nat.le_trans (by first | (simp; done) | (simp; omega)) hb_w3.size; have s2 : w2.heap.size < w3.heap.size := Nat.lt_of_lt_of_le (Nat.lt_succ_self _) s1; have s3 : w.heap.size + 2 ≤ w3.heap.size := Nat.le_trans zz (Nat.le_of_lt s2); have s4 : w.heap.size < w3.heap.size := Nat.lt_of_lt_of_le (Nat.lt_succ_of_lt (Nat.lt_succ_self _)) s3; have s5 : w.heap.size + 1 < w3.heap.size := Nat.lt_of_lt_of_le (Nat.lt_succ_self _) s3)
    all_goals go_wp2
    all_goals refine bodyPost_ret (by simp [results, Try.results77, go_sem, *]; try rfl) rfl ?_
    all_goals refine ⟨t * b - y1, d, b, rfl, fun _ => ⟨rfl, rfl, rfl⟩, ?_⟩
    all_goals repeat' (first | (with_reducible exact Below.refl _ _) | (with_reducible assumption) | (with_reducible refine Below.alloc ?_ ?_ _) | (with_reducible refine Below.drew ?_) | (with_reducible refine bdrewN ?_ _) | (with_reducible refine Below.setCell ?_ ?_ _) | (with_reducible refine bthen ?_ (by assumption) ?_) | go_size)
end Go.Proofs.Ytkjakgemjhbfoaa
