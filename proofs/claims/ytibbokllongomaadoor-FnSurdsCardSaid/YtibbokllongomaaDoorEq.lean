/-
  The equation of a surd, both packages.
-/
import Derived.Test.YtibbokllongomaaDoorSurd
import Derived.Test.YtibbokllongomaaDoorFrac
namespace Go.Proofs.YtibbokllongomaaDoor
open Go.RowKit

theorem results_four {fn : Func} {t u v x : Tmp} (h : fn.results = #[.tmp t, .tmp u, .tmp v, .tmp x]) (tmps : Array Value) (P : Program) (w : World) :
    (results fn tmps).run P w = .ok (.tuple #[tmps.getD t undef, tmps.getD u undef, tmps.getD v undef, tmps.getD x undef]) w := by simp [results, h]
def eqG1 (p q : Int) : Nat := Nat.gcd q.natAbs (-2 * p).natAbs
def eqG (p d q : Int) : Nat := Nat.gcd (eqG1 p q) ((p * p - d).tdiv q).natAbs
def eqM (p d q : Int) : Int × Int × Int × Int :=
  if okS p d q then
    if q < 0 then (q.tdiv (-(eqG p d q : Int)), (-2 * p).tdiv (-(eqG p d q : Int)), ((p * p - d).tdiv q).tdiv (-(eqG p d q : Int)), 0)
    else (q.tdiv (eqG p d q : Int), (-2 * p).tdiv (eqG p d q : Int), ((p * p - d).tdiv q).tdiv (eqG p d q : Int), 0)
  else (0, 0, 0, 1)
theorem eq_facts {p d q : Int} (h : okS p d q = true) :
    (0 ≤ p * p ∧ p * p ≤ 1000000000000) ∧ (-9000000000000000000 ≤ (p * p - d).tdiv q ∧ (p * p - d).tdiv q ≤ 9000000000000000000) ∧ (1 ≤ eqG1 p q ∧ eqG1 p q ≤ 1000000) ∧ (1 ≤ eqG p d q ∧ eqG p d q ≤ 1000000) := by
  obtain ⟨a1, a2, a3, a4, a5, a6, a7, _, _⟩ := okS_bd h
  have h4 := sq6 (p := p) (inB_iff.2 ⟨a3, a4⟩)
  have g1 : 1 ≤ eqG1 p q := Nat.gcd_pos_of_pos_left _ (by omega)
  have g2 : eqG1 p q ≤ 1000000 := Nat.le_trans (Nat.gcd_le_left _ (by omega)) (by omega)
  have g3 : 1 ≤ eqG p d q := Nat.gcd_pos_of_pos_left _ g1
  have g4 : eqG p d q ≤ 1000000 := Nat.le_trans (Nat.gcd_le_left _ g1) g2
  exact ⟨h4, div_between (by omega) (by omega), ⟨g1, g2⟩, ⟨g3, g4⟩⟩
set_option maxHeartbeats 2000000 in
theorem equationOfI_any (p d q : Int) (w : World) : Calls Tryd.prog 29 #[.agg #[.int .i64 p, .int .i64 d, .int .i64 q]] w (Ret w (.tuple #[.int .i64 (eqM p d q).1, .int .i64 (eqM p d q).2.1, .int .i64 (eqM p d q).2.2.1, .int .i64 (eqM p d q).2.2.2])) := by
  cases h : okS p d q
  · have e : eqM p d q = (0, 0, 0, 1) := by simp [eqM, h]
    rw [e]; clear e
    have H := Lib.hid h
    clear h
    go_enter Tryd.func29, Tryd.ntmps29
    go_wp2_with fail
    apply Calls.mono
    · with_reducible exact validSurd_any _ _ _ false H.out _
    rintro _ w1 ⟨rfl, hb_w1⟩
    obtain ⟨hc_w1, hf_w1, hs_w1⟩ := bcell hb_w1
    try simp at hs_w1
    have hz_w1_w0 : w.heap.size < w1.heap.size := by omega
    have hy_w1_w0 : w.heap.size ≤ w1.heap.size := by omega
    have hx_w1_w0 : ∀ n : Nat, w.heap.size < w1.heap.size + n := by intro n; omega
    have hv_w1_w0 : ∀ n : Nat, w.heap.size ≤ w1.heap.size + n := by intro n; omega
    go_wp2
    refine bodyPost_ret (results_four rfl _ _ _) rfl ?_
    refine ⟨by first | rfl | simp, ?_⟩
    repeat' (first | (with_reducible exact Below.refl _ _) | (with_reducible assumption) | (with_reducible refine Below.alloc ?_ ?_ _) | (with_reducible refine Below.drew ?_) | (with_reducible refine bdrewN ?_ _) | (with_reducible refine Below.setCell ?_ ?_ _) | (with_reducible refine bthen ?_ (by assumption) ?_) | go_size)
  · obtain ⟨a1, a2, a3, a4, a5, a6, a7, _, _⟩ := okS_bd h
    obtain ⟨⟨s1, s2⟩, ⟨c1, c2⟩, ⟨g1, g2⟩, g3, g4⟩ := eq_facts h
    have k1 : ∀ w, Calls Tryd.prog 64 #[.int .i64 q, .int .i64 (-2 * p)] w (Ret w (.int .i64 (eqG1 p q : Nat))) := fun w => gcd_any q (-2 * p) (by omega) (by omega) (by omega) (by omega) w
    have k2 : ∀ w, Calls Tryd.prog 64 #[.int .i64 (eqG1 p q : Nat), .int .i64 ((p * p - d).tdiv q)] w (Ret w (.int .i64 (eqG p d q : Nat))) := fun w => gcd_any (eqG1 p q : Nat) ((p * p - d).tdiv q) (by omega) (by omega) c1 c2 w
    obtain ⟨v1, hv1⟩ : ∃ v, q.tdiv (eqG p d q : Int) = v := ⟨_, rfl⟩
    obtain ⟨v2, hv2⟩ : ∃ v, (-2 * p).tdiv (eqG p d q : Int) = v := ⟨_, rfl⟩
    obtain ⟨v3, hv3⟩ : ∃ v, ((p * p - d).tdiv q).tdiv (eqG p d q : Int) = v := ⟨_, rfl⟩
    have b1 := div_between (a := q) (b := (eqG p d q : Int)) (by omega) (by omega)
    have b2 := div_between (a := -2 * p) (b := (eqG p d q : Int)) (by omega) (by omega)
    have b3 := div_between (a := (p * p - d).tdiv q) (b := (eqG p d q : Int)) c1 c2
    have H := Lib.hid h
    by_cases hq : q < 0
    · have e : eqM p d q = (q.tdiv (-(eqG p d q : Int)), (-2 * p).tdiv (-(eqG p d q : Int)), ((p * p - d).tdiv q).tdiv (-(eqG p d q : Int)), 0) := by unfold eqM; rw [if_pos h, if_pos hq]
      rw [e]; clear e
      simp only [Int.tdiv_neg]
      rw [hv1] at b1
      rw [hv2] at b2
      rw [hv3] at b3
      rw [hv1, hv2, hv3]
      generalize eqG p d q = g at *
      generalize eqG1 p q = g' at *
      clear h
      go_enter Tryd.func29, Tryd.ntmps29
      go_wp2_with fail
      apply Calls.mono
      · with_reducible exact validSurd_any _ _ _ true H.out _
      rintro _ w1 ⟨rfl, hb_w1⟩
      obtain ⟨hc_w1, hf_w1, hs_w1⟩ := bcell hb_w1
      try simp at hs_w1
      have hz_w1_w0 : w.heap.size < w1.heap.size := by omega
      have hy_w1_w0 : w.heap.size ≤ w1.heap.size := by omega
      have hx_w1_w0 : ∀ n : Nat, w.heap.size < w1.heap.size + n := by intro n; omega
      have hv_w1_w0 : ∀ n : Nat, w.heap.size ≤ w1.heap.size + n := by intro n; omega
      go_wp2_with fail
      refine wp_region_calm (by kernel_rfl) (by kernel_rfl) ?_
      repeat (go_big_quiet_step ((fail)))
      refine wpQuiet_nil ?_
      intro w2 hb_w2
      obtain ⟨hc_w2, hf_w2, hs_w2⟩ := bcell hb_w2
      try simp at hs_w2
      have hz_w2_w0 : w.heap.size < w2.heap.size := by omega
      have hy_w2_w0 : w.heap.size ≤ w2.heap.size := by omega
      have hx_w2_w0 : ∀ n : Nat, w.heap.size < w2.heap.size + n := by intro n; omega
      have hv_w2_w0 : ∀ n : Nat, w.heap.size ≤ w2.heap.size + n := by intro n; omega
      go_wp2_with fail
      apply Calls.mono
      · with_reducible exact k1 _
      rintro _ w3 ⟨rfl, hb_w3⟩
      obtain ⟨hc_w3, hf_w3, hs_w3⟩ := bcell hb_w3
      try simp at hs_w3
      have hz_w3_w0 : w.heap.size < w3.heap.size := by omega
      have hy_w3_w0 : w.heap.size ≤ w3.heap.size := by omega
      have hx_w3_w0 : ∀ n : Nat, w.heap.size < w3.heap.size + n := by intro n; omega
      have hv_w3_w0 : ∀ n : Nat, w.heap.size ≤ w3.heap.size + n := by intro n; omega
      go_wp2_with fail
      apply Calls.mono
      · with_reducible exact k2 _
      rintro _ w4 ⟨rfl, hb_w4⟩
      obtain ⟨hc_w4, hf_w4, hs_w4⟩ := bcell hb_w4
      try simp at hs_w4
      have hz_w4_w0 : w.heap.size < w4.heap.size := by omega
      have hy_w4_w0 : w.heap.size ≤ w4.heap.size := by omega
      have hx_w4_w0 : ∀ n : Nat, w.heap.size < w4.heap.size + n := by intro n; omega
      have hv_w4_w0 : ∀ n : Nat, w.heap.size ≤ w4.heap.size + n := by intro n; omega
      go_wp2_with fail
      refine wp_region_calm (by kernel_rfl) (by kernel_rfl) ?_
      repeat (go_big_quiet_step ((fail)))
      refine wpQuiet_nil ?_
      intro w5 hb_w5
      obtain ⟨hc_w5, hf_w5, hs_w5⟩ := bcell hb_w5
      try simp at hs_w5
      have hz_w5_w0 : w.heap.size < w5.heap.size := by omega
      have hy_w5_w0 : w.heap.size ≤ w5.heap.size := by omega
      have hx_w5_w0 : ∀ n : Nat, w.heap.size < w5.heap.size + n := by intro n; omega
      have hv_w5_w0 : ∀ n : Nat, w.heap.size ≤ w5.heap.size + n := by intro n; omega
      go_wp2
      refine bodyPost_ret (results_four rfl _ _ _) rfl ?_
      refine ⟨by first | rfl | simp, ?_⟩
      repeat' (first | (with_reducible exact Below.refl _ _) | (with_reducible assumption) | (with_reducible refine Below.alloc ?_ ?_ _) | (with_reducible refine Below.drew ?_) | (with_reducible refine bdrewN ?_ _) | (with_reducible refine Below.setCell ?_ ?_ _) | (with_reducible refine bthen ?_ (by assumption) ?_) | go_size)
    · have e : eqM p d q = (q.tdiv (eqG p d q : Int), (-2 * p).tdiv (eqG p d q : Int), ((p * p - d).tdiv q).tdiv (eqG p d q : Int), 0) := by unfold eqM; rw [if_pos h, if_neg hq]
      rw [e]; clear e
      rw [hv1] at b1
      rw [hv2] at b2
      rw [hv3] at b3
      rw [hv1, hv2, hv3]
      generalize eqG p d q = g at *
      generalize eqG1 p q = g' at *
      clear h
      go_enter Tryd.func29, Tryd.ntmps29
      go_wp2_with fail
      apply Calls.mono
      · with_reducible exact validSurd_any _ _ _ true H.out _
      rintro _ w1 ⟨rfl, hb_w1⟩
      obtain ⟨hc_w1, hf_w1, hs_w1⟩ := bcell hb_w1
      try simp at hs_w1
      have hz_w1_w0 : w.heap.size < w1.heap.size := by omega
      have hy_w1_w0 : w.heap.size ≤ w1.heap.size := by omega
      have hx_w1_w0 : ∀ n : Nat, w.heap.size < w1.heap.size + n := by intro n; omega
      have hv_w1_w0 : ∀ n : Nat, w.heap.size ≤ w1.heap.size + n := by intro n; omega
      go_wp2_with fail
      refine wp_region_calm (by kernel_rfl) (by kernel_rfl) ?_
      repeat (go_big_quiet_step ((fail)))
      refine wpQuiet_nil ?_
      intro w2 hb_w2
      obtain ⟨hc_w2, hf_w2, hs_w2⟩ := bcell hb_w2
      try simp at hs_w2
      have hz_w2_w0 : w.heap.size < w2.heap.size := by omega
      have hy_w2_w0 : w.heap.size ≤ w2.heap.size := by omega
      have hx_w2_w0 : ∀ n : Nat, w.heap.size < w2.heap.size + n := by intro n; omega
      have hv_w2_w0 : ∀ n : Nat, w.heap.size ≤ w2.heap.size + n := by intro n; omega
      go_wp2_with fail
      apply Calls.mono
      · with_reducible exact k1 _
      rintro _ w3 ⟨rfl, hb_w3⟩
      obtain ⟨hc_w3, hf_w3, hs_w3⟩ := bcell hb_w3
      try simp at hs_w3
      have hz_w3_w0 : w.heap.size < w3.heap.size := by omega
      have hy_w3_w0 : w.heap.size ≤ w3.heap.size := by omega
      have hx_w3_w0 : ∀ n : Nat, w.heap.size < w3.heap.size + n := by intro n; omega
      have hv_w3_w0 : ∀ n : Nat, w.heap.size ≤ w3.heap.size + n := by intro n; omega
      go_wp2_with fail
      apply Calls.mono
      · with_reducible exact k2 _
      rintro _ w4 ⟨rfl, hb_w4⟩
      obtain ⟨hc_w4, hf_w4, hs_w4⟩ := bcell hb_w4
      try simp at hs_w4
      have hz_w4_w0 : w.heap.size < w4.heap.size := by omega
      have hy_w4_w0 : w.heap.size ≤ w4.heap.size := by omega
      have hx_w4_w0 : ∀ n : Nat, w.heap.size < w4.heap.size + n := by intro n; omega
      have hv_w4_w0 : ∀ n : Nat, w.heap.size ≤ w4.heap.size + n := by intro n; omega
      go_wp2_with fail
      refine wp_region_calm (by kernel_rfl) (by kernel_rfl) ?_
      repeat (go_big_quiet_step ((fail)))
      refine wpQuiet_nil ?_
      intro w5 hb_w5
      obtain ⟨hc_w5, hf_w5, hs_w5⟩ := bcell hb_w5
      try simp at hs_w5
      have hz_w5_w0 : w.heap.size < w5.heap.size := by omega
      have hy_w5_w0 : w.heap.size ≤ w5.heap.size := by omega
      have hx_w5_w0 : ∀ n : Nat, w.heap.size < w5.heap.size + n := by intro n; omega
      have hv_w5_w0 : ∀ n : Nat, w.heap.size ≤ w5.heap.size + n := by intro n; omega
      go_wp2
      refine bodyPost_ret (results_four rfl _ _ _) rfl ?_
      refine ⟨by first | rfl | simp, ?_⟩
      repeat' (first | (with_reducible exact Below.refl _ _) | (with_reducible assumption) | (with_reducible refine Below.alloc ?_ ?_ _) | (with_reducible refine Below.drew ?_) | (with_reducible refine bdrewN ?_ _) | (with_reducible refine Below.setCell ?_ ?_ _) | (with_reducible refine bthen ?_ (by assumption) ?_) | go_size)
end Go.Proofs.YtibbokllongomaaDoor
