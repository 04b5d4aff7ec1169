/-
  Units, least solutions and the negative equation: the exported functions of both packages.
-/
import Derived.Test.YtibbokllongomaaDoorLeast
namespace Go.Proofs.YtibbokllongomaaDoor
open Go.RowKit

def hnM (d : Int) : Bool × Int := if pdM d = 0 then (decide (perN d % 2 = 1), 0) else (false, pdM d)
def uoM (d : Int) : (Int × Int) × Int × Int := if pdM d = 0 then (if okP d (cvX d (perN d)).1.1 (cvX d (perN d)).1.2 then (((cvX d (perN d)).1.1, (cvX d (perN d)).1.2), sgX (perN d), 0) else ((0, 0), 0, 5)) else ((0, 0), 0, pdM d)
def lnM (d : Int) : (Int × Int) × Int := if pdM d = 0 then (if perN d % 2 = 1 then (if okP d (cvX d (perN d)).1.1 (cvX d (perN d)).1.2 then (((cvX d (perN d)).1.1, (cvX d (perN d)).1.2), 0) else ((0, 0), 5)) else ((0, 0), 3)) else ((0, 0), pdM d)
def lpM (d : Int) : (Int × Int) × Int := if pdM d = 0 then (if lsB d (perN d) then ((lsX d (perN d), lsY d (perN d)), 0) else ((0, 0), 5)) else ((0, 0), pdM d)
set_option maxHeartbeats 2000000 in
theorem leastPellS_any (d : Int) (w : World) : Calls Tryd.prog 21 #[.int .i64 d] w (Ret w (.tuple #[.agg #[.int .i64 (lpM d).1.1, .int .i64 (lpM d).1.2], .int .i64 (lpM d).2])) := by
  by_cases h : pdM d = 0
  · obtain ⟨h1, h2, h3⟩ := pd_zero h
    obtain ⟨hl, hl4⟩ := per_spec h
    have H := Lib.hid h
    have kL := fun w => l09Least_any d h w
    unfold LeastP at kL
    cases hk : lsB d (perN d)
    · have e : lpM d = ((0, 0), 5) := by unfold lpM; rw [if_pos h, hk]; rfl
      rw [e]; clear e
      simp only [hk] at kL
      generalize lsX d (perN d) = x at *
      generalize lsY d (perN d) = y at *
      clear h hl h3 hl4 hk
      go_enter Tryd.func21, Tryd.ntmps21
      go_wp2_with fail
      apply Calls.mono
      · with_reducible exact l09D_any _ 0 H.out _
      rintro _ w1 ⟨rfl, hb_w1⟩
      obtain ⟨hc_w1, hf_w1, hs_w1⟩ := bcell hb_w1
      try simp at hs_w1
      have hz_w1_w0 : w.heap.size < w1.heap.size := by omega
      have hy_w1_w0 : w.heap.size ≤ w1.heap.size := by omega
      have hx_w1_w0 : ∀ n : Nat, w.heap.size < w1.heap.size + n := by intro n; omega
      have hv_w1_w0 : ∀ n : Nat, w.heap.size ≤ w1.heap.size + n := by intro n; omega
      go_wp2_with fail
      apply Calls.mono
      · with_reducible exact kL _
      rintro _ w2 ⟨x1, y1, rfl, hxy, hb_w2⟩
      obtain ⟨hc_w2, hf_w2, hs_w2⟩ := bcell hb_w2
      try simp at hs_w2
      have hz_w2_w0 : w.heap.size < w2.heap.size := by omega
      have hy_w2_w0 : w.heap.size ≤ w2.heap.size := by omega
      have hx_w2_w0 : ∀ n : Nat, w.heap.size < w2.heap.size + n := by intro n; omega
      have hv_w2_w0 : ∀ n : Nat, w.heap.size ≤ w2.heap.size + n := by intro n; omega
      go_wp2
      refine bodyPost_ret (by simp [results, Tryd.results21, go_sem, *]; try rfl) rfl ?_
      refine ⟨by first | rfl | simp, ?_⟩
      repeat' (first | (with_reducible exact Below.refl _ _) | (with_reducible assumption) | (with_reducible refine Below.alloc ?_ ?_ _) | (with_reducible refine Below.drew ?_) | (with_reducible refine bdrewN ?_ _) | (with_reducible refine Below.setCell ?_ ?_ _) | (with_reducible refine bthen ?_ (by assumption) ?_) | go_size)
    · have e : lpM d = ((lsX d (perN d), lsY d (perN d)), 0) := by unfold lpM; rw [if_pos h, hk]; rfl
      rw [e]; clear e
      simp only [hk] at kL
      generalize lsX d (perN d) = x at *
      generalize lsY d (perN d) = y at *
      clear h hl h3 hl4 hk
      go_enter Tryd.func21, Tryd.ntmps21
      go_wp2_with fail
      apply Calls.mono
      · with_reducible exact l09D_any _ 0 H.out _
      rintro _ w1 ⟨rfl, hb_w1⟩
      obtain ⟨hc_w1, hf_w1, hs_w1⟩ := bcell hb_w1
      try simp at hs_w1
      have hz_w1_w0 : w.heap.size < w1.heap.size := by omega
      have hy_w1_w0 : w.heap.size ≤ w1.heap.size := by omega
      have hx_w1_w0 : ∀ n : Nat, w.heap.size < w1.heap.size + n := by intro n; omega
      have hv_w1_w0 : ∀ n : Nat, w.heap.size ≤ w1.heap.size + n := by intro n; omega
      go_wp2_with fail
      apply Calls.mono
      · with_reducible exact kL _
      rintro _ w2 ⟨x1, y1, rfl, hxy, hb_w2⟩
      obtain ⟨rfl, rfl⟩ := hxy trivial
      obtain ⟨hc_w2, hf_w2, hs_w2⟩ := bcell hb_w2
      try simp at hs_w2
      have hz_w2_w0 : w.heap.size < w2.heap.size := by omega
      have hy_w2_w0 : w.heap.size ≤ w2.heap.size := by omega
      have hx_w2_w0 : ∀ n : Nat, w.heap.size < w2.heap.size + n := by intro n; omega
      have hv_w2_w0 : ∀ n : Nat, w.heap.size ≤ w2.heap.size + n := by intro n; omega
      go_wp2
      refine bodyPost_ret (by simp [results, Tryd.results21, go_sem, *]; try rfl) rfl ?_
      refine ⟨by first | rfl | simp, ?_⟩
      repeat' (first | (with_reducible exact Below.refl _ _) | (with_reducible assumption) | (with_reducible refine Below.alloc ?_ ?_ _) | (with_reducible refine Below.drew ?_) | (with_reducible refine bdrewN ?_ _) | (with_reducible refine Below.setCell ?_ ?_ _) | (with_reducible refine bthen ?_ (by assumption) ?_) | go_size)
  · have e : lpM d = ((0, 0), pdM d) := by unfold lpM; rw [if_neg h]
    rw [e]; clear e
    have hne : (pdM d != 0) = true := by simpa using h
    generalize hc : pdM d = c at *
    have HC := Lib.hid hc
    clear hc h
    go_enter Tryd.func21, Tryd.ntmps21
    go_wp2_with fail
    apply Calls.mono
    · with_reducible exact l09D_any _ c HC.out _
    rintro _ w1 ⟨rfl, hb_w1⟩
    obtain ⟨hc_w1, hf_w1, hs_w1⟩ := bcell hb_w1
    try simp at hs_w1
    have hz_w1_w0 : w.heap.size < w1.heap.size := by omega
    have hy_w1_w0 : w.heap.size ≤ w1.heap.size := by omega
    have hx_w1_w0 : ∀ n : Nat, w.heap.size < w1.heap.size + n := by intro n; omega
    have hv_w1_w0 : ∀ n : Nat, w.heap.size ≤ w1.heap.size + n := by intro n; omega
    go_wp2
    refine bodyPost_ret (by simp [results, Tryd.results21, go_sem, *]; try rfl) rfl ?_
    refine ⟨by first | rfl | simp, ?_⟩
    repeat' (first | (with_reducible exact Below.refl _ _) | (with_reducible assumption) | (with_reducible refine Below.alloc ?_ ?_ _) | (with_reducible refine Below.drew ?_) | (with_reducible refine bdrewN ?_ _) | (with_reducible refine Below.setCell ?_ ?_ _) | (with_reducible refine bthen ?_ (by assumption) ?_) | go_size)
end Go.Proofs.YtibbokllongomaaDoor
