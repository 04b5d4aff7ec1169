/-
  The norm of a pair, both packages.
-/
import Derived.Test.YtibbokllongomaaDoorRoot
namespace Go.Proofs.YtibbokllongomaaDoor
open Go.RowKit

def pdM (d : Int) : Int := if inB d 2 10000 then (if sqB d then 6 else 0) else 2
def okP (d x y : Int) : Bool := inB x (-1000000000) 1000000000 && inB y (-1000000000) 1000000000 && decide (y * y ≤ (1000000000000000000 : Int).tdiv d)
def pcM (d x y : Int) : Int := if pdM d = 0 then (if okP d x y then 0 else 1) else pdM d
theorem sq9 {p : Int} (h : inB p (-1000000000) 1000000000 = true) : 0 ≤ p * p ∧ p * p ≤ 1000000000000000000 := by
  have h2 := inB_iff.1 h
  have h4 : p * p = ((p.natAbs * p.natAbs : Nat) : Int) := by rw [Int.natAbs_mul_self]
  have h5 : p.natAbs * p.natAbs ≤ 1000000000 * 1000000000 := Nat.mul_le_mul (by omega) (by omega)
  omega
theorem q18 {d : Int} (h1 : 1 ≤ d) : 0 ≤ (1000000000000000000 : Int).tdiv d ∧ (1000000000000000000 : Int).tdiv d ≤ 1000000000000000000 := by
  rw [Int.tdiv_eq_ediv_of_nonneg (by omega)]
  exact ⟨Int.ediv_nonneg (by omega) (by omega), Int.ediv_le_self _ (by omega)⟩
set_option maxHeartbeats 1000000 in
theorem isPlainPair_any (d x y : Int) (hd : 1 ≤ d) (hd2 : d ≤ 10000) (r : Bool) (hr : okP d x y = r) (w : World) : Calls Tryd.prog 82 #[.int .i64 d, .agg #[.int .i64 x, .int .i64 y]] w (Ret w (.bool r)) := by
  subst hr
  obtain ⟨t1, t2⟩ := q18 hd
  cases h1 : inB x (-1000000000) 1000000000
  · have e : okP d x y = false := by simp [okP, h1]
    rw [e]; clear e
    have H1 := Lib.hid h1
    clear h1
    go_enter Tryd.func82, Tryd.ntmps82
    go_wp2_with fail
    refine wp_region_calm (by kernel_rfl) (by kernel_rfl) ?_
    repeat (go_big_quiet_step ((with_reducible exact calm (within_any _ _ _ false H1.out _))))
    refine wpQuiet_nil ?_
    intro w1 hb_w1
    obtain ⟨hc_w1, hf_w1, hs_w1⟩ := bcell hb_w1
    try simp at hs_w1
    have hz_w1_w0 : w.heap.size < w1.heap.size := by omega
    have hy_w1_w0 : w.heap.size ≤ w1.heap.size := by omega
    have hx_w1_w0 : ∀ n : Nat, w.heap.size < w1.heap.size + n := by intro n; omega
    have hv_w1_w0 : ∀ n : Nat, w.heap.size ≤ w1.heap.size + n := by intro n; omega
    go_wp2
    go_ret
    refine ⟨by first | rfl | (simp), ?_⟩
    repeat' (first | (with_reducible exact Below.refl _ _) | (with_reducible assumption) | (with_reducible refine Below.alloc ?_ ?_ _) | (with_reducible refine Below.drew ?_) | (with_reducible refine bdrewN ?_ _) | (with_reducible refine Below.setCell ?_ ?_ _) | (with_reducible refine bthen ?_ (by assumption) ?_) | go_size)
  · cases h2 : inB y (-1000000000) 1000000000
    · have e : okP d x y = false := by simp [okP, h2]
      rw [e]; clear e
      have H1 := Lib.hid h1
      have H2 := Lib.hid h2
      clear h1 h2
      go_enter Tryd.func82, Tryd.ntmps82
      go_wp2_with fail
      refine wp_region_calm (by kernel_rfl) (by kernel_rfl) ?_
      repeat (go_big_quiet_step ((first | with_reducible exact calm (within_any _ _ _ true H1.out _) | with_reducible exact calm (within_any _ _ _ false H2.out _))))
      refine wpQuiet_nil ?_
      intro w1 hb_w1
      obtain ⟨hc_w1, hf_w1, hs_w1⟩ := bcell hb_w1
      try simp at hs_w1
      have hz_w1_w0 : w.heap.size < w1.heap.size := by omega
      have hy_w1_w0 : w.heap.size ≤ w1.heap.size := by omega
      have hx_w1_w0 : ∀ n : Nat, w.heap.size < w1.heap.size + n := by intro n; omega
      have hv_w1_w0 : ∀ n : Nat, w.heap.size ≤ w1.heap.size + n := by intro n; omega
      go_wp2
      go_ret
      refine ⟨by first | rfl | (simp), ?_⟩
      repeat' (first | (with_reducible exact Below.refl _ _) | (with_reducible assumption) | (with_reducible refine Below.alloc ?_ ?_ _) | (with_reducible refine Below.drew ?_) | (with_reducible refine bdrewN ?_ _) | (with_reducible refine Below.setCell ?_ ?_ _) | (with_reducible refine bthen ?_ (by assumption) ?_) | go_size)
    · have e : okP d x y = decide (y * y ≤ (1000000000000000000 : Int).tdiv d) := by simp [okP, h1, h2]
      rw [e]; clear e
      have hy := sq9 h2
      have H1 := Lib.hid h1
      have H2 := Lib.hid h2
      clear h1 h2
      go_enter Tryd.func82, Tryd.ntmps82
      go_wp2_with fail
      refine wp_region_calm (by kernel_rfl) (by kernel_rfl) ?_
      repeat (go_big_quiet_step ((first | with_reducible exact calm (within_any _ _ _ true H1.out _) | with_reducible exact calm (within_any _ _ _ true H2.out _))))
      refine wpQuiet_nil ?_
      intro w1 hb_w1
      obtain ⟨hc_w1, hf_w1, hs_w1⟩ := bcell hb_w1
      try simp at hs_w1
      have hz_w1_w0 : w.heap.size < w1.heap.size := by omega
      have hy_w1_w0 : w.heap.size ≤ w1.heap.size := by omega
      have hx_w1_w0 : ∀ n : Nat, w.heap.size < w1.heap.size + n := by intro n; omega
      have hv_w1_w0 : ∀ n : Nat, w.heap.size ≤ w1.heap.size + n := by intro n; omega
      go_wp2
      go_ret
      refine ⟨by first | rfl | (simp), ?_⟩
      repeat' (first | (with_reducible exact Below.refl _ _) | (with_reducible assumption) | (with_reducible refine Below.alloc ?_ ?_ _) | (with_reducible refine Below.drew ?_) | (with_reducible refine bdrewN ?_ _) | (with_reducible refine Below.setCell ?_ ?_ _) | (with_reducible refine bthen ?_ (by assumption) ?_) | go_size)
set_option maxHeartbeats 1000000 in
theorem l09Ok_any (d x y : Int) (hd : 1 ≤ d) (hd2 : d ≤ 10000) (r : Bool) (hr : okP d x y = r) (w : World) : Calls Tryd.prog 108 #[.int .i64 d, .agg #[.int .i64 x, .int .i64 y]] w (Ret w (.bool r)) := by
  subst hr
  obtain ⟨t1, t2⟩ := q18 hd
  cases h1 : inB x (-1000000000) 1000000000
  · have e : okP d x y = false := by simp [okP, h1]
    rw [e]; clear e
    have H1 := Lib.hid h1
    clear h1
    go_enter Tryd.func108, Tryd.ntmps108
    go_wp2_with fail
    apply Calls.mono
    · with_reducible exact l00In_any _ _ _ false H1.out _
    rintro _ w1 ⟨rfl, hb_w1⟩
    obtain ⟨hc_w1, hf_w1, hs_w1⟩ := bcell hb_w1
    try simp at hs_w1
    have hz_w1_w0 : w.heap.size < w1.heap.size := by omega
    have hy_w1_w0 : w.heap.size ≤ w1.heap.size := by omega
    have hx_w1_w0 : ∀ n : Nat, w.heap.size < w1.heap.size + n := by intro n; omega
    have hv_w1_w0 : ∀ n : Nat, w.heap.size ≤ w1.heap.size + n := by intro n; omega
    go_wp2
    go_ret
    refine ⟨by first | rfl | (simp), ?_⟩
    repeat' (first | (with_reducible exact Below.refl _ _) | (with_reducible assumption) | (with_reducible refine Below.alloc ?_ ?_ _) | (with_reducible refine Below.drew ?_) | (with_reducible refine bdrewN ?_ _) | (with_reducible refine Below.setCell ?_ ?_ _) | (with_reducible refine bthen ?_ (by assumption) ?_) | go_size)
  · cases h2 : inB y (-1000000000) 1000000000
    · have e : okP d x y = false := by simp [okP, h2]
      rw [e]; clear e
      have H1 := Lib.hid h1
      have H2 := Lib.hid h2
      clear h1 h2
      go_enter Tryd.func108, Tryd.ntmps108
      go_wp2_with fail
      apply Calls.mono
      · with_reducible exact l00In_any _ _ _ true H1.out _
      rintro _ w1 ⟨rfl, hb_w1⟩
      obtain ⟨hc_w1, hf_w1, hs_w1⟩ := bcell hb_w1
      try simp at hs_w1
      have hz_w1_w0 : w.heap.size < w1.heap.size := by omega
      have hy_w1_w0 : w.heap.size ≤ w1.heap.size := by omega
      have hx_w1_w0 : ∀ n : Nat, w.heap.size < w1.heap.size + n := by intro n; omega
      have hv_w1_w0 : ∀ n : Nat, w.heap.size ≤ w1.heap.size + n := by intro n; omega
      go_wp2_with fail
      apply Calls.mono
      · with_reducible exact l00In_any _ _ _ false H2.out _
      rintro _ w2 ⟨rfl, hb_w2⟩
      obtain ⟨hc_w2, hf_w2, hs_w2⟩ := bcell hb_w2
      try simp at hs_w2
      have hz_w2_w0 : w.heap.size < w2.heap.size := by omega
      have hy_w2_w0 : w.heap.size ≤ w2.heap.size := by omega
      have hx_w2_w0 : ∀ n : Nat, w.heap.size < w2.heap.size + n := by intro n; omega
      have hv_w2_w0 : ∀ n : Nat, w.heap.size ≤ w2.heap.size + n := by intro n; omega
      go_wp2
      go_ret
      refine ⟨by first | rfl | (simp), ?_⟩
      repeat' (first | (with_reducible exact Below.refl _ _) | (with_reducible assumption) | (with_reducible refine Below.alloc ?_ ?_ _) | (with_reducible refine Below.drew ?_) | (with_reducible refine bdrewN ?_ _) | (with_reducible refine Below.setCell ?_ ?_ _) | (with_reducible refine bthen ?_ (by assumption) ?_) | go_size)
    · have e : okP d x y = decide (y * y ≤ (1000000000000000000 : Int).tdiv d) := by simp [okP, h1, h2]
      rw [e]; clear e
      have hy := sq9 h2
      have H1 := Lib.hid h1
      have H2 := Lib.hid h2
      clear h1 h2
      go_enter Tryd.func108, Tryd.ntmps108
      go_wp2_with fail
      apply Calls.mono
      · with_reducible exact l00In_any _ _ _ true H1.out _
      rintro _ w1 ⟨rfl, hb_w1⟩
      obtain ⟨hc_w1, hf_w1, hs_w1⟩ := bcell hb_w1
      try simp at hs_w1
      have hz_w1_w0 : w.heap.size < w1.heap.size := by omega
      have hy_w1_w0 : w.heap.size ≤ w1.heap.size := by omega
      have hx_w1_w0 : ∀ n : Nat, w.heap.size < w1.heap.size + n := by intro n; omega
      have hv_w1_w0 : ∀ n : Nat, w.heap.size ≤ w1.heap.size + n := by intro n; omega
      go_wp2_with fail
      apply Calls.mono
      · with_reducible exact l00In_any _ _ _ true H2.out _
      rintro _ w2 ⟨rfl, hb_w2⟩
      obtain ⟨hc_w2, hf_w2, hs_w2⟩ := bcell hb_w2
      try simp at hs_w2
      have hz_w2_w0 : w.heap.size < w2.heap.size := by omega
      have hy_w2_w0 : w.heap.size ≤ w2.heap.size := by omega
      have hx_w2_w0 : ∀ n : Nat, w.heap.size < w2.heap.size + n := by intro n; omega
      have hv_w2_w0 : ∀ n : Nat, w.heap.size ≤ w2.heap.size + n := by intro n; omega
      go_wp2_with fail
      refine wp_region_calm (by kernel_rfl) (by kernel_rfl) ?_
      repeat (go_big_quiet_step ((fail)))
      refine wpQuiet_nil ?_
      intro w3 hb_w3
      obtain ⟨hc_w3, hf_w3, hs_w3⟩ := bcell hb_w3
      try simp at hs_w3
      have hz_w3_w0 : w.heap.size < w3.heap.size := by omega
      have hy_w3_w0 : w.heap.size ≤ w3.heap.size := by omega
      have hx_w3_w0 : ∀ n : Nat, w.heap.size < w3.heap.size + n := by intro n; omega
      have hv_w3_w0 : ∀ n : Nat, w.heap.size ≤ w3.heap.size + n := by intro n; omega
      go_wp2
      go_ret
      refine ⟨by first | rfl | (simp), ?_⟩
      repeat' (first | (with_reducible exact Below.refl _ _) | (with_reducible assumption) | (with_reducible refine Below.alloc ?_ ?_ _) | (with_reducible refine Below.drew ?_) | (with_reducible refine bdrewN ?_ _) | (with_reducible refine Below.setCell ?_ ?_ _) | (with_reducible refine bthen ?_ (by assumption) ?_) | go_size)
theorem l09D_any (d : Int) (r : Int) (hr : pdM d = r) (w : World) : Calls Tryd.prog 56 #[.int .i64 d] w (Ret w (.int .i64 r)) := by
  subst hr
  cases h1 : inB d 2 10000
  · have e : pdM d = 2 := by simp [pdM, h1]
    rw [e]; clear e
    have H1 := Lib.hid h1
    clear h1
    go_enter Tryd.func56, Tryd.ntmps56
    go_wp2_with fail
    apply Calls.mono
    · with_reducible exact l00In_any _ _ _ false H1.out _
    rintro _ w1 ⟨rfl, hb_w1⟩
    obtain ⟨hc_w1, hf_w1, hs_w1⟩ := bcell hb_w1
    try simp at hs_w1
    go_wp2
    go_ret
    refine ⟨by first | rfl | (simp), ?_⟩
    repeat' (first | (with_reducible exact Below.refl _ _) | (with_reducible assumption) | (with_reducible refine Below.alloc ?_ ?_ _) | (with_reducible refine Below.drew ?_) | (with_reducible refine bdrewN ?_ _) | (with_reducible refine Below.setCell ?_ ?_ _) | (with_reducible refine bthen ?_ (by assumption) ?_) | go_size)
  · have bd := inB_iff.1 h1
    cases h2 : sqB d
    · have e : pdM d = 0 := by simp [pdM, h1, h2]
      rw [e]; clear e
      have H1 := Lib.hid h1
      have H2 := Lib.hid h2
      clear h1 h2
      go_enter Tryd.func56, Tryd.ntmps56
      go_wp2_with fail
      apply Calls.mono
      · with_reducible exact l00In_any _ _ _ true H1.out _
      rintro _ w1 ⟨rfl, hb_w1⟩
      obtain ⟨hc_w1, hf_w1, hs_w1⟩ := bcell hb_w1
      try simp at hs_w1
      go_wp2_with fail
      apply Calls.mono
      · with_reducible exact l07Square_any _ (by omega) (by omega) false H2.out _
      rintro _ w2 ⟨rfl, hb_w2⟩
      obtain ⟨hc_w2, hf_w2, hs_w2⟩ := bcell hb_w2
      try simp at hs_w2
      go_wp2
      go_ret
      refine ⟨by first | rfl | (simp), ?_⟩
      repeat' (first | (with_reducible exact Below.refl _ _) | (with_reducible assumption) | (with_reducible refine Below.alloc ?_ ?_ _) | (with_reducible refine Below.drew ?_) | (with_reducible refine bdrewN ?_ _) | (with_reducible refine Below.setCell ?_ ?_ _) | (with_reducible refine bthen ?_ (by assumption) ?_) | go_size)
    · have e : pdM d = 6 := by simp [pdM, h1, h2]
      rw [e]; clear e
      have H1 := Lib.hid h1
      have H2 := Lib.hid h2
      clear h1 h2
      go_enter Tryd.func56, Tryd.ntmps56
      go_wp2_with fail
      apply Calls.mono
      · with_reducible exact l00In_any _ _ _ true H1.out _
      rintro _ w1 ⟨rfl, hb_w1⟩
      obtain ⟨hc_w1, hf_w1, hs_w1⟩ := bcell hb_w1
      try simp at hs_w1
      go_wp2_with fail
      apply Calls.mono
      · with_reducible exact l07Square_any _ (by omega) (by omega) true H2.out _
      rintro _ w2 ⟨rfl, hb_w2⟩
      obtain ⟨hc_w2, hf_w2, hs_w2⟩ := bcell hb_w2
      try simp at hs_w2
      go_wp2
      go_ret
      refine ⟨by first | rfl | (simp), ?_⟩
      repeat' (first | (with_reducible exact Below.refl _ _) | (with_reducible assumption) | (with_reducible refine Below.alloc ?_ ?_ _) | (with_reducible refine Below.drew ?_) | (with_reducible refine bdrewN ?_ _) | (with_reducible refine Below.setCell ?_ ?_ _) | (with_reducible refine bthen ?_ (by assumption) ?_) | go_size)
def nmV (d x y : Int) : Int := x * x - d * y * y
theorem pc_zero {d x y : Int} (h : pcM d x y = 0) : (2 ≤ d ∧ d ≤ 10000) ∧ pdM d = 0 ∧ okP d x y = true := by
  unfold pcM at h
  by_cases h1 : pdM d = 0
  · rw [if_pos h1] at h
    have h2 : okP d x y = true := by
      cases h3 : okP d x y
      · rw [h3] at h; simp at h
      · rfl
    have h4 : inB d 2 10000 = true := by
      cases h3 : inB d 2 10000
      · simp [pdM, h3] at h1
      · rfl
    exact ⟨inB_iff.1 h4, h1, h2⟩
  · rw [if_neg h1] at h; exact absurd h h1
theorem okP_bd {d x y : Int} (hd : 2 ≤ d) (hd2 : d ≤ 10000) (h : okP d x y = true) : (-1000000000 ≤ x ∧ x ≤ 1000000000) ∧ (-1000000000 ≤ y ∧ y ≤ 1000000000) ∧ (0 ≤ x * x ∧ x * x ≤ 1000000000000000000) ∧ (-10000000000000 ≤ d * y ∧ d * y ≤ 10000000000000) ∧ (0 ≤ d * y * y ∧ d * y * y ≤ 1000000000000000000) := by
  simp only [okP, Bool.and_eq_true, decide_eq_true_eq] at h
  obtain ⟨⟨h1, h2⟩, h3⟩ := h
  have b1 := inB_iff.1 h1
  have b2 := inB_iff.1 h2
  have s1 := sq9 h1
  have s2 := sq9 h2
  rw [Int.tdiv_eq_ediv_of_nonneg (by omega)] at h3
  have h4 := Int.mul_le_of_le_ediv (show 0 < d by omega) h3
  have e : d * y * y = y * y * d := by rw [Int.mul_assoc, Int.mul_comm]
  have h5 := Int.mul_nonneg s2.1 (show 0 ≤ d by omega)
  have h6 : d * y ≤ d * 1000000000 := Int.mul_le_mul_of_nonneg_left b2.2 (by omega)
  have h7 : d * (-1000000000) ≤ d * y := Int.mul_le_mul_of_nonneg_left b2.1 (by omega)
  exact ⟨b1, b2, s1, ⟨by omega, by omega⟩, by rw [e]; exact ⟨h5, h4⟩⟩
theorem norm_any (d x y : Int) (hd : 2 ≤ d) (hd2 : d ≤ 10000) (h : okP d x y = true) (w : World) : Calls Tryd.prog 52 #[.int .i64 d, .agg #[.int .i64 x, .int .i64 y]] w (Ret w (.int .i64 (nmV d x y))) := by
  obtain ⟨⟨a1, a2⟩, ⟨a3, a4⟩, ⟨a5, a6⟩, ⟨a7, a8⟩, a9, a10⟩ := okP_bd hd hd2 h
  clear h
  unfold nmV
  go_enter Tryd.func52, Tryd.ntmps52
  go_wp2
  go_ret
  refine ⟨by first | rfl | (simp), ?_⟩
  repeat' (first | (with_reducible exact Below.refl _ _) | (with_reducible assumption) | (with_reducible refine Below.alloc ?_ ?_ _) | (with_reducible refine Below.drew ?_) | (with_reducible refine bdrewN ?_ _) | (with_reducible refine Below.setCell ?_ ?_ _) | (with_reducible refine bthen ?_ (by assumption) ?_) | go_size)
def nmM (d x y : Int) : Int × Int := if pcM d x y = 0 then (nmV d x y, 0) else (0, pcM d x y)
/-- The pairs of a slice, each in its two cells. -/
def PellR (W w : World) (d : Int) (n : Nat) (xs ys : Nat → Int) (k : Nat) (z : Value) (wr : World) : Prop :=
  ∃ j : Nat, j ≤ n ∧ k = n - j ∧ z = .int .i64 (j : Nat) ∧ (∀ t, t < j → okP d (xs t) (ys t) = true) ∧ Below W.heap.size w wr
set_option maxHeartbeats 2000000 in
theorem checkPell_any (d : Int) (n c g : Nat) (xs ys : Nat → Int) (hn : n ≤ 2) (hc : n ≤ c) (hcm : c ≤ 2) (w : World) (hg : g < w.heap.size)
    (hx : ∀ j, j < n → w.cell? ⟨g, j * 2, none⟩ = some (.int .i64 (xs j)) ∧ w.cell? ⟨g, j * 2 + 1, none⟩ = some (.int .i64 (ys j)))
    (r : Int) (hr : (if pdM d = 0 then (if ∀ t, t < n → okP d (xs t) (ys t) = true then 0 else 1) else pdM d) = r) :
    Calls Tryd.prog 50 #[.int .i64 d, .slice (some ⟨g, 0, none⟩) n c] w (Ret w (.int .i64 r)) := by
  have HR := Lib.hid hr
  have HX := Lib.hid hx
  clear hr hx
  cases h1 : inB d 2 10000
  · obtain rfl : 2 = r := by rw [← HR.out]; simp [pdM, h1]
    have H1 := Lib.hid h1
    clear h1 HR
    go_enter Tryd.func50, Tryd.ntmps50
    go_wp2_with fail
    apply Calls.mono
    · with_reducible exact within_any _ _ _ false H1.out _
    rintro _ w1 ⟨rfl, hb_w1⟩
    obtain ⟨hc_w1, hf_w1, hs_w1⟩ := bcell hb_w1
    try simp at hs_w1
    go_wp2
    go_ret
    refine ⟨by first | rfl | (simp), ?_⟩
    repeat' (first | (with_reducible exact Below.refl _ _) | (with_reducible assumption) | (with_reducible refine Below.alloc ?_ ?_ _) | (with_reducible refine Below.drew ?_) | (with_reducible refine bdrewN ?_ _) | (with_reducible refine Below.setCell ?_ ?_ _) | (with_reducible refine bthen ?_ (by assumption) ?_) | go_size)
  · have bd := inB_iff.1 h1
    cases h2 : sqB d
    rotate_left
    · obtain rfl : 6 = r := by rw [← HR.out]; simp [pdM, h1, h2]
      have H1 := Lib.hid h1
      have H2 := Lib.hid h2
      clear h1 h2 HR
      go_enter Tryd.func50, Tryd.ntmps50
      go_wp2_with fail
      apply Calls.mono
      · with_reducible exact within_any _ _ _ true H1.out _
      rintro _ w1 ⟨rfl, hb_w1⟩
      obtain ⟨hc_w1, hf_w1, hs_w1⟩ := bcell hb_w1
      try simp at hs_w1
      go_wp2_with fail
      apply Calls.mono
      · with_reducible exact isSquare_any _ (by omega) true H2.out _
      rintro _ w2 ⟨rfl, hb_w2⟩
      obtain ⟨hc_w2, hf_w2, hs_w2⟩ := bcell hb_w2
      try simp at hs_w2
      go_wp2
      go_ret
      refine ⟨by first | rfl | (simp), ?_⟩
      repeat' (first | (with_reducible exact Below.refl _ _) | (with_reducible assumption) | (with_reducible refine Below.alloc ?_ ?_ _) | (with_reducible refine Below.drew ?_) | (with_reducible refine bdrewN ?_ _) | (with_reducible refine Below.setCell ?_ ?_ _) | (with_reducible refine bthen ?_ (by assumption) ?_) | go_size)
    · have e0 : pdM d = 0 := by simp [pdM, h1, h2]
      have hR := HR.out
      rw [if_pos e0] at hR
      have HR2 := Lib.hid hR
      have H1 := Lib.hid h1
      have H2 := Lib.hid h2
      clear h1 h2 HR hR e0
      go_enter Tryd.func50, Tryd.ntmps50
      go_wp2_with fail
      apply Calls.mono
      · with_reducible exact within_any _ _ _ true H1.out _
      rintro _ w1 ⟨rfl, hb_w1⟩
      obtain ⟨hc_w1, hf_w1, hs_w1⟩ := bcell hb_w1
      try simp at hs_w1
      go_wp2_with fail
      apply Calls.mono
      · with_reducible exact isSquare_any _ (by omega) false H2.out _
      rintro _ w2 ⟨rfl, hb_w2⟩
      obtain ⟨hc_w2, hf_w2, hs_w2⟩ := bcell hb_w2
      try simp at hs_w2
      go_wp2_with fail
      go_loopg [16] n (PellR w w d n xs ys)
      case atStart => exact ⟨0, by omega, by omega, rfl, fun t ht => absurd ht (by omega), bthen hb_w1 hb_w2 hb_w1.size⟩
      obtain ⟨j, hj1, hj2, rfl, hall, hbw⟩ := hrel
      have HA := Lib.hid hall
      clear hall
      have hs := hbw.size
      by_cases hjn : j < n
      · have c1 : wr.cell? ⟨g, j * 2, none⟩ = some (.int .i64 (xs j)) := (hbw.cell (p := ⟨g, j * 2, none⟩) hg).trans (HX.out j hjn).1
        have c2 : wr.cell? ⟨g, j * 2 + 1, none⟩ = some (.int .i64 (ys j)) := (hbw.cell (p := ⟨g, j * 2 + 1, none⟩) hg).trans (HX.out j hjn).2
        have hgw : g < wr.heap.size := by omega
        have hjn' : (j : Int) < (n : Int) := by omega
        cases ho : okP d (xs j) (ys j)
        · obtain rfl : 1 = r := by
            rw [← HR2.out, if_neg]
            intro h
            have := h j hjn
            rw [ho] at this
            cases this
          have HO := Lib.hid ho
          clear ho HR2
          go_wp2_with fail
          apply Calls.mono
          · with_reducible exact isPlainPair_any _ _ _ (by omega) (by omega) false HO.out _
          rintro _ w3 ⟨rfl, hb_w3⟩
          obtain ⟨hc_w3, hf_w3, hs_w3⟩ := bcell hb_w3
          try simp at hs_w3
          have hz_w3_wr0 : wr.heap.size < w3.heap.size := by omega
          have hy_w3_wr0 : wr.heap.size ≤ w3.heap.size := by omega
          have hx_w3_wr0 : ∀ n : Nat, wr.heap.size < w3.heap.size + n := by intro n; omega
          have hv_w3_wr0 : ∀ n : Nat, wr.heap.size ≤ w3.heap.size + n := by intro n; omega
          go_wp2
          go_ret
          refine ⟨by first | rfl | (simp), ?_⟩
          repeat' (first | (with_reducible exact Below.refl _ _) | (with_reducible assumption) | (with_reducible refine Below.alloc ?_ ?_ _) | (with_reducible refine Below.drew ?_) | (with_reducible refine bdrewN ?_ _) | (with_reducible refine Below.setCell ?_ ?_ _) | (with_reducible refine bthen ?_ (by assumption) ?_) | go_size)
        · have HO := Lib.hid ho
          clear ho
          go_wp2_with fail
          apply Calls.mono
          · with_reducible exact isPlainPair_any _ _ _ (by omega) (by omega) true HO.out _
          rintro _ w3 ⟨rfl, hb_w3⟩
          obtain ⟨hc_w3, hf_w3, hs_w3⟩ := bcell hb_w3
          try simp at hs_w3
          have hz_w3_wr0 : wr.heap.size < w3.heap.size := by omega
          have hy_w3_wr0 : wr.heap.size ≤ w3.heap.size := by omega
          have hx_w3_wr0 : ∀ n : Nat, wr.heap.size < w3.heap.size + n := by intro n; omega
          have hv_w3_wr0 : ∀ n : Nat, wr.heap.size ≤ w3.heap.size + n := by intro n; omega
          go_wp2
          go_roundg (gk - 1)
          case measure => omega
          case rel =>
            refine ⟨j + 1, by omega, by omega, by go_num, ?_, ?_⟩
            · intro t ht
              by_cases e : t = j
              · subst e; exact HO.out
              · exact HA.out t (by omega)
            · repeat' (first | (with_reducible exact Below.refl _ _) | (with_reducible assumption) | (with_reducible refine Below.alloc ?_ ?_ _) | (with_reducible refine Below.drew ?_) | (with_reducible refine bdrewN ?_ _) | (with_reducible refine Below.setCell ?_ ?_ _) | (with_reducible refine bthen ?_ (by assumption) ?_) | go_size)
      · obtain rfl : j = n := by omega
        obtain rfl : 0 = r := by rw [← HR2.out, if_pos HA.out]
        clear HR2
        have hjn' : ¬ (j : Int) < (j : Int) := by omega
        go_wp2
        go_ret
        refine ⟨by first | rfl | (simp), ?_⟩
        repeat' (first | (with_reducible exact Below.refl _ _) | (with_reducible assumption) | (with_reducible refine Below.alloc ?_ ?_ _) | (with_reducible refine Below.drew ?_) | (with_reducible refine bdrewN ?_ _) | (with_reducible refine Below.setCell ?_ ?_ _) | (with_reducible refine bthen ?_ (by assumption) ?_) | go_size)
theorem pc_one (d : Int) (xs ys : Nat → Int) (n : Nat) (hn : n = 1) : (if pdM d = 0 then (if ∀ t, t < n → okP d (xs t) (ys t) = true then (0 : Int) else 1) else pdM d) = pcM d (xs 0) (ys 0) := by
  unfold pcM
  by_cases h : pdM d = 0
  · rw [if_pos h, if_pos h]
    by_cases h2 : okP d (xs 0) (ys 0) = true
    · rw [if_pos h2, if_pos]
      intro t ht
      obtain rfl : t = 0 := by omega
      exact h2
    · rw [if_neg h2, if_neg]
      intro h3
      exact h2 (h3 0 (by omega))
  · rw [if_neg h, if_neg h]
set_option maxHeartbeats 1000000 in
theorem normOfI_any (d x y : Int) (w : World) : Calls Tryd.prog 18 #[.int .i64 d, .agg #[.int .i64 x, .int .i64 y]] w (Ret w (.tuple #[.int .i64 (nmM d x y).1, .int .i64 (nmM d x y).2])) := by
  have hone : _ = pcM d x y := pc_one d (fun _ => x) (fun _ => y) 1 rfl
  by_cases h : pcM d x y = 0
  · obtain ⟨⟨d1, d2⟩, _, hok⟩ := pc_zero h
    have e : nmM d x y = (nmV d x y, 0) := by simp [nmM, h]
    rw [e]; clear e
    rw [h] at hone
    have H := Lib.hid hone
    have HO := Lib.hid hok
    clear h hok hone
    go_enter Tryd.func18, Tryd.ntmps18
    go_wp2_with fail
    apply Calls.mono
    · with_reducible exact checkPell_any _ 1 1 _ (fun _ => x) (fun _ => y) (by omega) (by omega) (by omega) _ (by simp) (by intro j hj; obtain rfl : j = 0 := (by omega); exact ⟨by simp, by simp⟩) 0 H.out
    rintro _ w1 ⟨rfl, hb_w1⟩
    obtain ⟨hc_w1, hf_w1, hs_w1⟩ := bcell hb_w1
    try simp at hs_w1
    have hz_w1_w0 : w.heap.size < w1.heap.size := by omega
    have hy_w1_w0 : w.heap.size ≤ w1.heap.size := by omega
    have hx_w1_w0 : ∀ n : Nat, w.heap.size < w1.heap.size + n := by intro n; omega
    have hv_w1_w0 : ∀ n : Nat, w.heap.size ≤ w1.heap.size + n := by intro n; omega
    have hz_w1_w1 : w.heap.size + 1 < w1.heap.size := by omega
    have hy_w1_w1 : w.heap.size + 1 ≤ w1.heap.size := by omega
    have hx_w1_w1 : ∀ n : Nat, w.heap.size + 1 < w1.heap.size + n := by intro n; omega
    have hv_w1_w1 : ∀ n : Nat, w.heap.size + 1 ≤ w1.heap.size + n := by intro n; omega
    go_wp2_with fail
    apply Calls.mono
    · with_reducible exact norm_any _ _ _ d1 d2 HO.out _
    rintro _ w2 ⟨rfl, hb_w2⟩
    obtain ⟨hc_w2, hf_w2, hs_w2⟩ := bcell hb_w2
    try simp at hs_w2
    have hz_w2_w0 : w.heap.size < w2.heap.size := by omega
    have hy_w2_w0 : w.heap.size ≤ w2.heap.size := by omega
    have hx_w2_w0 : ∀ n : Nat, w.heap.size < w2.heap.size + n := by intro n; omega
    have hv_w2_w0 : ∀ n : Nat, w.heap.size ≤ w2.heap.size + n := by intro n; omega
    have hz_w2_w1 : w.heap.size + 1 < w2.heap.size := by omega
    have hy_w2_w1 : w.heap.size + 1 ≤ w2.heap.size := by omega
    have hx_w2_w1 : ∀ n : Nat, w.heap.size + 1 < w2.heap.size + n := by intro n; omega
    have hv_w2_w1 : ∀ n : Nat, w.heap.size + 1 ≤ w2.heap.size + n := by intro n; omega
    go_wp2
    go_ret2
    refine ⟨by first | rfl | (simp), ?_⟩
    repeat' (first | (with_reducible exact Below.refl _ _) | (with_reducible assumption) | (with_reducible refine Below.alloc ?_ ?_ _) | (with_reducible refine Below.drew ?_) | (with_reducible refine bdrewN ?_ _) | (with_reducible refine Below.setCell ?_ ?_ _) | (with_reducible refine bthen ?_ (by assumption) ?_) | go_size)
  · have e : nmM d x y = (0, pcM d x y) := by simp [nmM, h]
    rw [e]; clear e
    have hne : (pcM d x y != 0) = true := by simp [h]
    generalize hc : pcM d x y = c at *
    have H := Lib.hid hone
    clear hc h hone
    go_enter Tryd.func18, Tryd.ntmps18
    go_wp2_with fail
    apply Calls.mono
    · with_reducible exact checkPell_any _ 1 1 _ (fun _ => x) (fun _ => y) (by omega) (by omega) (by omega) _ (by simp) (by intro j hj; obtain rfl : j = 0 := (by omega); exact ⟨by simp, by simp⟩) c H.out
    rintro _ w1 ⟨rfl, hb_w1⟩
    obtain ⟨hc_w1, hf_w1, hs_w1⟩ := bcell hb_w1
    try simp at hs_w1
    have hz_w1_w0 : w.heap.size < w1.heap.size := by omega
    have hy_w1_w0 : w.heap.size ≤ w1.heap.size := by omega
    have hx_w1_w0 : ∀ n : Nat, w.heap.size < w1.heap.size + n := by intro n; omega
    have hv_w1_w0 : ∀ n : Nat, w.heap.size ≤ w1.heap.size + n := by intro n; omega
    have hz_w1_w1 : w.heap.size + 1 < w1.heap.size := by omega
    have hy_w1_w1 : w.heap.size + 1 ≤ w1.heap.size := by omega
    have hx_w1_w1 : ∀ n : Nat, w.heap.size + 1 < w1.heap.size + n := by intro n; omega
    have hv_w1_w1 : ∀ n : Nat, w.heap.size + 1 ≤ w1.heap.size + n := by intro n; omega
    go_wp2
    go_ret2
    refine ⟨by first | rfl | (simp), ?_⟩
    repeat' (first | (with_reducible exact Below.refl _ _) | (with_reducible assumption) | (with_reducible refine Below.alloc ?_ ?_ _) | (with_reducible refine Below.drew ?_) | (with_reducible refine bdrewN ?_ _) | (with_reducible refine Below.setCell ?_ ?_ _) | (with_reducible refine bthen ?_ (by assumption) ?_) | go_size)
end Go.Proofs.YtibbokllongomaaDoor
