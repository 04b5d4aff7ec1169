/-
  The next surd of an expansion, both packages.
-/
import Derived.Test.YtibbokllongomaaDoorSurd
import Derived.Deep.RegionWith
namespace Go.Proofs.YtibbokllongomaaDoor
open Go.RowKit

def hdS (p d q : Int) : Int := flS p d q * q - p
def tlS (p d q : Int) : Int := (d - hdS p d q * hdS p d q).tdiv q
/-- The head of the next surd is the root less a remainder: it stays small. -/
theorem hdS_bd {p d q : Int} (h : okS p d q = true) : -1002000 ≤ hdS p d q ∧ hdS p d q ≤ 1002000 := by
  obtain ⟨a1, a2, a3, a4, a5, a6, a7, _⟩ := okS_bd h
  have hi := isq_small d.toNat (by omega)
  unfold hdS flS
  generalize isq d.toNat = k at *
  have e1 := Int.mul_ediv_add_emod (p + (k : Int)) q
  have e2 := Int.emod_nonneg (p + (k : Int)) a7
  by_cases hq : q > 0
  · rw [if_pos hq]
    have e3 := Int.emod_lt_of_pos (p + (k : Int)) (show 0 < q by omega)
    rw [Int.mul_comm]
    omega
  · rw [if_neg hq]
    have e3 := Int.emod_lt_of_pos (p + (k : Int)) (show 0 < -q by omega)
    rw [Int.emod_neg] at e3
    rw [Int.sub_mul, Int.mul_comm]
    omega
theorem tlS_bd {p d q : Int} (h : okS p d q = true) : (0 ≤ hdS p d q * hdS p d q ∧ hdS p d q * hdS p d q ≤ 1010000000000) ∧ -9000000000000000000 ≤ tlS p d q ∧ tlS p d q ≤ 9000000000000000000 := by
  obtain ⟨a1, a2, a3, a4, a5, a6, a7, _⟩ := okS_bd h
  obtain ⟨b1, b2⟩ := hdS_bd h
  unfold tlS
  generalize hdS p d q = x at *
  have h4 : x * x = ((x.natAbs * x.natAbs : Nat) : Int) := by rw [Int.natAbs_mul_self]
  have h5 : x.natAbs * x.natAbs ≤ 1002000 * 1002000 := Nat.mul_le_mul (by omega) (by omega)
  exact ⟨by omega, div_between (by omega) (by omega)⟩
theorem ok_head {p d q : Int} (h : inB p (-1000000) 1000000 = false) : okS p d q = false := by simp [okS, h]
theorem fl_mul {p d q : Int} (h : okS p d q = true) : -2000000000000 ≤ flS p d q * q ∧ flS p d q * q ≤ 2000000000000 := by
  obtain ⟨a1, a2, a3, a4, a5, a6, a7, _⟩ := okS_bd h
  have := hdS_bd h
  unfold hdS at this
  omega
set_option maxHeartbeats 2000000 in
theorem nextSurd_any (p d q : Int) (h : okS p d q = true) (b : Bool) (hb : okS (hdS p d q) d (tlS p d q) = b) (w : World) :
    Calls Tryd.prog 68 #[.agg #[.int .i64 p, .int .i64 d, .int .i64 q]] w (Ret w (.tuple #[.int .i64 (flS p d q), .agg #[.int .i64 (hdS p d q), .int .i64 d, .int .i64 (tlS p d q)], .bool b])) := by
  obtain ⟨a1, a2, a3, a4, a5, a6, a7, _⟩ := okS_bd h
  obtain ⟨c1, c2⟩ := flS_bd h
  obtain ⟨c3, c4⟩ := fl_mul h
  obtain ⟨c5, c6⟩ := hdS_bd h
  obtain ⟨⟨c7, c8⟩, c9, c10⟩ := tlS_bd h
  have H := Lib.hid h
  have HB := Lib.hid hb
  have k1 : ∀ w, Calls Tryd.prog 61 #[.agg #[.int .i64 p, .int .i64 d, .int .i64 q]] w (Ret w (.int .i64 (flS p d q))) := fun w => floorSurd_any p d q h _ rfl w
  have e1 : flS p d q * q - p = hdS p d q := rfl
  have e2 : (d - hdS p d q * hdS p d q).tdiv q = tlS p d q := rfl
  clear h hb
  generalize tlS p d q = y at *
  generalize hdS p d q = x at *
  generalize flS p d q = a at *
  go_enter Tryd.func68, Tryd.ntmps68
  go_wp2_with fail
  apply Calls.mono
  · with_reducible exact k1 _
  rintro _ w1 ⟨rfl, hb_w1⟩
  obtain ⟨hc_w1, hf_w1, hs_w1⟩ := bcell hb_w1
  try simp at hs_w1
  have hz_w1_w0 : w.heap.size < w1.heap.size := by omega
  have hy_w1_w0 : w.heap.size ≤ w1.heap.size := by omega
  have hx_w1_w0 : ∀ n : Nat, w.heap.size < w1.heap.size + n := by intro n; omega
  have hv_w1_w0 : ∀ n : Nat, w.heap.size ≤ w1.heap.size + n := by intro n; omega
  have hz_w1_w1 : w.heap.size + 1 < w1.heap.size := by omega
  have hy_w1_w1 : w.heap.size + 1 ≤ w1.heap.size := by omega
  have hx_w1_w1 : ∀ n : Nat, w.heap.size + 1 < w1.heap.size + n := by intro n; omega
  have hv_w1_w1 : ∀ n : Nat, w.heap.size + 1 ≤ w1.heap.size + n := by intro n; omega
  go_wp2_with fail
  go_region
  all_goals go_wp2_with fail
  all_goals go_region_with (go_at_call 43; refine (validSurd_any _ _ _ b HB.out _).mono ?_; rintro _ w2 ⟨rfl, hb_w2⟩; have hc_w2 := (bcell hb_w2).1; have hf_w2 := (bcell hb_w2).2.1; have hs_w2 : w1.heap.size + 1 ≤ w2.heap.size := Nat.le_trans (by first | (simp; done) | (simp; omega)) hb_w2.size; have z1 : w.heap.size < w2.heap.size := Nat.lt_of_lt_of_le hz_w1_w0 (Nat.le_of_succ_le hs_w2); have z2 : w.heap.size + 1 < w2.heap.size := Nat.lt_of_lt_of_le hz_w1_w1 (Nat.le_of_succ_le hs_w2); have z3 : w1.heap.size < w2.heap.size := hs_w2)
  all_goals go_wp2
  all_goals
    refine bodyPost_ret (by simp [results, Tryd.results68, go_sem, *]; try rfl) rfl ?_
    refine ⟨by first | rfl | simp, ?_⟩
    repeat' (first | (with_reducible exact Below.refl _ _) | (with_reducible assumption) | (with_reducible refine Below.alloc ?_ ?_ _) | (with_reducible refine Below.drew ?_) | (with_reducible refine bdrewN ?_ _) | (with_reducible refine Below.setCell ?_ ?_ _) | (with_reducible refine bthen ?_ (by assumption) ?_) | go_size)
set_option maxHeartbeats 2000000 in
theorem l07Next_in (p d q : Int) (h : okS p d q = true) (hin : inB (hdS p d q) (-1000000) 1000000 = true) (b : Bool) (hb : okS (hdS p d q) d (tlS p d q) = b) (w : World) :
    Calls Tryd.prog 48 #[.agg #[.int .i64 p, .int .i64 d, .int .i64 q], .int .i64 (flS p d q)] w (Ret w (.tuple #[.agg #[.int .i64 (hdS p d q), .int .i64 d, .int .i64 (tlS p d q)], .bool b])) := by
  obtain ⟨a1, a2, a3, a4, a5, a6, a7, _⟩ := okS_bd h
  obtain ⟨c1, c2⟩ := flS_bd h
  obtain ⟨c3, c4⟩ := fl_mul h
  obtain ⟨c5, c6⟩ := hdS_bd h
  obtain ⟨⟨c7, c8⟩, c9, c10⟩ := tlS_bd h
  have HB := Lib.hid hb
  have HI := Lib.hid hin
  have e1 : flS p d q * q - p = hdS p d q := rfl
  have e2 : (d - hdS p d q * hdS p d q).tdiv q = tlS p d q := rfl
  clear h hb hin
  generalize tlS p d q = y at *
  generalize hdS p d q = x at *
  generalize flS p d q = a at *
  go_enter Tryd.func48, Tryd.ntmps48
  go_wp2_with fail
  apply Calls.mono
  · with_reducible exact l00In_any _ _ _ true HI.out _
  rintro _ w1 ⟨rfl, hb_w1⟩
  obtain ⟨hc_w1, hf_w1, hs_w1⟩ := bcell hb_w1
  try simp at hs_w1
  have hz_w1_w0 : w.heap.size < w1.heap.size := by omega
  have hy_w1_w0 : w.heap.size ≤ w1.heap.size := by omega
  have hx_w1_w0 : ∀ n : Nat, w.heap.size < w1.heap.size + n := by intro n; omega
  have hv_w1_w0 : ∀ n : Nat, w.heap.size ≤ w1.heap.size + n := by intro n; omega
  have hz_w1_w1 : w.heap.size + 1 < w1.heap.size := by omega
  have hy_w1_w1 : w.heap.size + 1 ≤ w1.heap.size := by omega
  have hx_w1_w1 : ∀ n : Nat, w.heap.size + 1 < w1.heap.size + n := by intro n; omega
  have hv_w1_w1 : ∀ n : Nat, w.heap.size + 1 ≤ w1.heap.size + n := by intro n; omega
  go_wp2_with fail
  go_region
  all_goals go_wp2_with fail
  all_goals go_region_with (go_at_call 44; refine (l07Ok_any _ _ _ b HB.out _).mono ?_; rintro _ w2 ⟨rfl, hb_w2⟩; have hc_w2 := (bcell hb_w2).1; have hf_w2 := (bcell hb_w2).2.1; have hs_w2 : w1.heap.size + 1 ≤ w2.heap.size := Nat.le_trans (by first | (simp; done) | (simp; omega)) hb_w2.size; have z1 : w.heap.size < w2.heap.size := Nat.lt_of_lt_of_le hz_w1_w0 (Nat.le_of_succ_le hs_w2); have z2 : w.heap.size + 1 < w2.heap.size := Nat.lt_of_lt_of_le hz_w1_w1 (Nat.le_of_succ_le hs_w2); have z3 : w1.heap.size < w2.heap.size := hs_w2)
  all_goals go_wp2
  all_goals
    refine bodyPost_ret (by simp [results, Tryd.results48, go_sem, *]; try rfl) rfl ?_
    refine ⟨by first | rfl | simp, ?_⟩
    repeat' (first | (with_reducible exact Below.refl _ _) | (with_reducible assumption) | (with_reducible refine Below.alloc ?_ ?_ _) | (with_reducible refine Below.drew ?_) | (with_reducible refine bdrewN ?_ _) | (with_reducible refine Below.setCell ?_ ?_ _) | (with_reducible refine bthen ?_ (by assumption) ?_) | go_size)
set_option maxHeartbeats 2000000 in
theorem l07Next_out (p d q : Int) (h : okS p d q = true) (hin : inB (hdS p d q) (-1000000) 1000000 = false) (w : World) :
    Calls Tryd.prog 48 #[.agg #[.int .i64 p, .int .i64 d, .int .i64 q], .int .i64 (flS p d q)] w (Ret w (.tuple #[.agg #[.int .i64 0, .int .i64 0, .int .i64 0], .bool false])) := by
  obtain ⟨a1, a2, a3, a4, a5, a6, a7, _⟩ := okS_bd h
  obtain ⟨c1, c2⟩ := flS_bd h
  obtain ⟨c3, c4⟩ := fl_mul h
  obtain ⟨c5, c6⟩ := hdS_bd h
  have HI := Lib.hid hin
  have e1 : flS p d q * q - p = hdS p d q := rfl
  clear h hin
  generalize hdS p d q = x at *
  generalize flS p d q = a at *
  go_enter Tryd.func48, Tryd.ntmps48
  go_wp2_with fail
  apply Calls.mono
  · with_reducible exact l00In_any _ _ _ false HI.out _
  rintro _ w1 ⟨rfl, hb_w1⟩
  obtain ⟨hc_w1, hf_w1, hs_w1⟩ := bcell hb_w1
  try simp at hs_w1
  have hz_w1_w0 : w.heap.size < w1.heap.size := by omega
  have hy_w1_w0 : w.heap.size ≤ w1.heap.size := by omega
  have hx_w1_w0 : ∀ n : Nat, w.heap.size < w1.heap.size + n := by intro n; omega
  have hv_w1_w0 : ∀ n : Nat, w.heap.size ≤ w1.heap.size + n := by intro n; omega
  have hz_w1_w1 : w.heap.size + 1 < w1.heap.size := by omega
  have hy_w1_w1 : w.heap.size + 1 ≤ w1.heap.size := by omega
  have hx_w1_w1 : ∀ n : Nat, w.heap.size + 1 < w1.heap.size + n := by intro n; omega
  have hv_w1_w1 : ∀ n : Nat, w.heap.size + 1 ≤ w1.heap.size + n := by intro n; omega
  go_wp2
  refine bodyPost_ret (by simp [results, Tryd.results48, go_sem, *]; try rfl) rfl ?_
  refine ⟨by first | rfl | simp, ?_⟩
  repeat' (first | (with_reducible exact Below.refl _ _) | (with_reducible assumption) | (with_reducible refine Below.alloc ?_ ?_ _) | (with_reducible refine Below.drew ?_) | (with_reducible refine bdrewN ?_ _) | (with_reducible refine Below.setCell ?_ ?_ _) | (with_reducible refine bthen ?_ (by assumption) ?_) | go_size)
def nxM (p d q : Int) : Int × (Int × Int × Int) × Int :=
  if okS p d q then (if okS (hdS p d q) d (tlS p d q) then (flS p d q, (hdS p d q, d, tlS p d q), 0) else (0, (0, 0, 0), 5)) else (0, (0, 0, 0), 1)
set_option maxHeartbeats 2000000 in
theorem nextSurdI_any (p d q : Int) (w : World) : Calls Tryd.prog 33 #[.agg #[.int .i64 p, .int .i64 d, .int .i64 q]] w (Ret w (.tuple #[.int .i64 (nxM p d q).1, .agg #[.int .i64 (nxM p d q).2.1.1, .int .i64 (nxM p d q).2.1.2.1, .int .i64 (nxM p d q).2.1.2.2], .int .i64 (nxM p d q).2.2])) := by
  cases h : okS p d q
  · have e : nxM p d q = (0, (0, 0, 0), 1) := by simp [nxM, h]
    rw [e]; clear e
    have H := Lib.hid h
    clear h
    go_enter Tryd.func33, Tryd.ntmps33
    go_wp2_with fail
    apply Calls.mono
    · with_reducible exact validSurd_any _ _ _ false H.out _
    rintro _ w1 ⟨rfl, hb_w1⟩
    obtain ⟨hc_w1, hf_w1, hs_w1⟩ := bcell hb_w1
    try simp at hs_w1
    have hz_w1_w0 : w.heap.size < w1.heap.size := by omega
    have hy_w1_w0 : w.heap.size ≤ w1.heap.size := by omega
    have hx_w1_w0 : ∀ n : Nat, w.heap.size < w1.heap.size + n := by intro n; omega
    have hv_w1_w0 : ∀ n : Nat, w.heap.size ≤ w1.heap.size + n := by intro n; omega
    have hz_w1_w1 : w.heap.size + 1 < w1.heap.size := by omega
    have hy_w1_w1 : w.heap.size + 1 ≤ w1.heap.size := by omega
    have hx_w1_w1 : ∀ n : Nat, w.heap.size + 1 < w1.heap.size + n := by intro n; omega
    have hv_w1_w1 : ∀ n : Nat, w.heap.size + 1 ≤ w1.heap.size + n := by intro n; omega
    go_wp2
    refine bodyPost_ret (by simp [results, Tryd.results33, go_sem, *]; try rfl) rfl ?_
    refine ⟨by first | rfl | simp, ?_⟩
    repeat' (first | (with_reducible exact Below.refl _ _) | (with_reducible assumption) | (with_reducible refine Below.alloc ?_ ?_ _) | (with_reducible refine Below.drew ?_) | (with_reducible refine bdrewN ?_ _) | (with_reducible refine Below.setCell ?_ ?_ _) | (with_reducible refine bthen ?_ (by assumption) ?_) | go_size)
  · cases h2 : okS (hdS p d q) d (tlS p d q)
    · have e : nxM p d q = (0, (0, 0, 0), 5) := by simp [nxM, h, h2]
      rw [e]; clear e
      have H := Lib.hid h
      have H2 := Lib.hid h2
      clear h h2
      go_enter Tryd.func33, Tryd.ntmps33
      go_wp2_with fail
      apply Calls.mono
      · with_reducible exact validSurd_any _ _ _ true H.out _
      rintro _ w1 ⟨rfl, hb_w1⟩
      obtain ⟨hc_w1, hf_w1, hs_w1⟩ := bcell hb_w1
      try simp at hs_w1
      have hz_w1_w0 : w.heap.size < w1.heap.size := by omega
      have hy_w1_w0 : w.heap.size ≤ w1.heap.size := by omega
      have hx_w1_w0 : ∀ n : Nat, w.heap.size < w1.heap.size + n := by intro n; omega
      have hv_w1_w0 : ∀ n : Nat, w.heap.size ≤ w1.heap.size + n := by intro n; omega
      have hz_w1_w1 : w.heap.size + 1 < w1.heap.size := by omega
      have hy_w1_w1 : w.heap.size + 1 ≤ w1.heap.size := by omega
      have hx_w1_w1 : ∀ n : Nat, w.heap.size + 1 < w1.heap.size + n := by intro n; omega
      have hv_w1_w1 : ∀ n : Nat, w.heap.size + 1 ≤ w1.heap.size + n := by intro n; omega
      go_wp2_with fail
      apply Calls.mono
      · with_reducible exact nextSurd_any _ _ _ H.out false H2.out _
      rintro _ w2 ⟨rfl, hb_w2⟩
      obtain ⟨hc_w2, hf_w2, hs_w2⟩ := bcell hb_w2
      try simp at hs_w2
      have hz_w2_w0 : w.heap.size < w2.heap.size := by omega
      have hy_w2_w0 : w.heap.size ≤ w2.heap.size := by omega
      have hx_w2_w0 : ∀ n : Nat, w.heap.size < w2.heap.size + n := by intro n; omega
      have hv_w2_w0 : ∀ n : Nat, w.heap.size ≤ w2.heap.size + n := by intro n; omega
      have hz_w2_w1 : w.heap.size + 1 < w2.heap.size := by omega
      have hy_w2_w1 : w.heap.size + 1 ≤ w2.heap.size := by omega
      have hx_w2_w1 : ∀ n : Nat, w.heap.size + 1 < w2.heap.size + n := by intro n; omega
      have hv_w2_w1 : ∀ n : Nat, w.heap.size + 1 ≤ w2.heap.size + n := by intro n; omega
      go_wp2
      refine bodyPost_ret (by simp [results, Tryd.results33, go_sem, *]; try rfl) rfl ?_
      refine ⟨by first | rfl | simp, ?_⟩
      repeat' (first | (with_reducible exact Below.refl _ _) | (with_reducible assumption) | (with_reducible refine Below.alloc ?_ ?_ _) | (with_reducible refine Below.drew ?_) | (with_reducible refine bdrewN ?_ _) | (with_reducible refine Below.setCell ?_ ?_ _) | (with_reducible refine bthen ?_ (by assumption) ?_) | go_size)
    · have e : nxM p d q = (flS p d q, (hdS p d q, d, tlS p d q), 0) := by simp [nxM, h, h2]
      rw [e]; clear e
      have H := Lib.hid h
      have H2 := Lib.hid h2
      clear h h2
      go_enter Tryd.func33, Tryd.ntmps33
      go_wp2_with fail
      apply Calls.mono
      · with_reducible exact validSurd_any _ _ _ true H.out _
      rintro _ w1 ⟨rfl, hb_w1⟩
      obtain ⟨hc_w1, hf_w1, hs_w1⟩ := bcell hb_w1
      try simp at hs_w1
      have hz_w1_w0 : w.heap.size < w1.heap.size := by omega
      have hy_w1_w0 : w.heap.size ≤ w1.heap.size := by omega
      have hx_w1_w0 : ∀ n : Nat, w.heap.size < w1.heap.size + n := by intro n; omega
      have hv_w1_w0 : ∀ n : Nat, w.heap.size ≤ w1.heap.size + n := by intro n; omega
      have hz_w1_w1 : w.heap.size + 1 < w1.heap.size := by omega
      have hy_w1_w1 : w.heap.size + 1 ≤ w1.heap.size := by omega
      have hx_w1_w1 : ∀ n : Nat, w.heap.size + 1 < w1.heap.size + n := by intro n; omega
      have hv_w1_w1 : ∀ n : Nat, w.heap.size + 1 ≤ w1.heap.size + n := by intro n; omega
      go_wp2_with fail
      apply Calls.mono
      · with_reducible exact nextSurd_any _ _ _ H.out true H2.out _
      rintro _ w2 ⟨rfl, hb_w2⟩
      obtain ⟨hc_w2, hf_w2, hs_w2⟩ := bcell hb_w2
      try simp at hs_w2
      have hz_w2_w0 : w.heap.size < w2.heap.size := by omega
      have hy_w2_w0 : w.heap.size ≤ w2.heap.size := by omega
      have hx_w2_w0 : ∀ n : Nat, w.heap.size < w2.heap.size + n := by intro n; omega
      have hv_w2_w0 : ∀ n : Nat, w.heap.size ≤ w2.heap.size + n := by intro n; omega
      have hz_w2_w1 : w.heap.size + 1 < w2.heap.size := by omega
      have hy_w2_w1 : w.heap.size + 1 ≤ w2.heap.size := by omega
      have hx_w2_w1 : ∀ n : Nat, w.heap.size + 1 < w2.heap.size + n := by intro n; omega
      have hv_w2_w1 : ∀ n : Nat, w.heap.size + 1 ≤ w2.heap.size + n := by intro n; omega
      go_wp2_with fail
      go_region
      all_goals go_wp2
      all_goals
        refine bodyPost_ret (by simp [results, Tryd.results33, go_sem, *]; try rfl) rfl ?_
        refine ⟨by first | rfl | simp, ?_⟩
        repeat' (first | (with_reducible exact Below.refl _ _) | (with_reducible assumption) | (with_reducible refine Below.alloc ?_ ?_ _) | (with_reducible refine Below.drew ?_) | (with_reducible refine bdrewN ?_ _) | (with_reducible refine Below.setCell ?_ ?_ _) | (with_reducible refine bthen ?_ (by assumption) ?_) | go_size)
end Go.Proofs.YtibbokllongomaaDoor
