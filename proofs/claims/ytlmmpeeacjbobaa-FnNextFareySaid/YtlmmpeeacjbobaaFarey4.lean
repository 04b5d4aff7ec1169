/-
  The place of an element in a Farey sequence, and the elements whose circles touch that on a fraction.
-/
import Derived.Test.YtlmmpeeacjbobaaFarey3
import Derived.Deep.RegionHeld3
namespace Go.Proofs.Ytlmmpeeacjbobaa
open Go.RowKit

/-- The place of p in a list, counted from k on; -1 if it is not there. -/
def idxF : List (Int × Int) → Int × Int → Nat → Int
  | [], _, _ => -1
  | x :: xs, p, k => if x = p then (k : Int) else idxF xs p (k + 1)
theorem idx_hit (l : List (Int × Int)) (p : Int × Int) (k j : Nat) (h : ∀ t, t < j → l[t]? ≠ some p) (hj : l[j]? = some p) : idxF l p k = ((k + j : Nat) : Int) := by
  induction l generalizing k j with
  | nil => simp at hj
  | cons x xs ih =>
    unfold idxF
    cases j with
    | zero => simp at hj; rw [if_pos hj]; simp
    | succ j =>
      rw [if_neg (fun e => h 0 (by omega) (by simp [e]))]
      rw [ih (k + 1) j (fun t ht => by have := h (t + 1) (by omega); simpa using this) (by simpa using hj)]
      congr 1; omega
theorem idx_miss (l : List (Int × Int)) (p : Int × Int) (k : Nat) (h : ∀ t, t < l.length → l[t]? ≠ some p) : idxF l p k = -1 := by
  induction l generalizing k with
  | nil => rfl
  | cons x xs ih =>
    unfold idxF
    rw [if_neg (fun e => h 0 (by simp) (by simp [e]))]
    exact ih (k + 1) (fun t ht => by have := h (t + 1) (by simp; omega); simpa using this)
def IdxR (w : World) (l : List (Int × Int)) (p : Int × Int) (k : Nat) (i : Value) (wr : World) : Prop :=
  ∃ j : Nat, j ≤ l.length ∧ l.length ≤ j + k ∧ i = .int .i64 j ∧ (∀ t, t < j → l[t]? ≠ some p) ∧ Below w.heap.size w wr
def rankM (N n d : Int) : Int × Int := if chkM N 40 n d = 0 then (if idxF (farL N) (n, d) 0 < 0 then (0, 3) else (idxF (farL N) (n, d) 0, 0)) else (0, chkM N 40 n d)

set_option maxHeartbeats 1000000 in
theorem indexF_any (v : Value) (n d : Int) (l : List (Int × Int)) (w : World) (hv : Rd w 2 v l.length (prs l)) (hlen : l.length ≤ 1048576) (r : Int) (hr : idxF l (n, d) 0 = r) :
    Calls Try.prog 92 #[v, .agg #[.int .i64 n, .int .i64 d]] w (Ret w (.int .i64 r)) := by
  obtain ⟨A, c, rfl, hn1, hc1, _, hr1⟩ := hv
  have R1 := Lib.hid hr1
  have HR := Lib.hid hr
  clear hr1 hr
  go_enter Try.func92, Try.ntmps92
  go_wp2_with fail
  go_loopg [8] l.length (IdxR (w.alloc (.cells #[.int .i64 n, .int .i64 d] 24)) l (n, d))
  case atStart => exact ⟨0, by omega, by omega, rfl, by omega, Below.refl _ _⟩
  case round =>
    obtain ⟨j, hj1, hj2, rfl, hall, hbw⟩ := hrel
    have HA := Lib.hid hall
    clear hall
    have hs := hbw.size
    rw [World.size_alloc] at hs
    by_cases hjn : j < l.length
    · obtain ⟨⟨y1, y2⟩, hy⟩ := get_ex (l := l) (k := j) hjn
      rcases R1.out with h0 | ⟨g, o, rfl, hg, hcell⟩
      · omega
      have c1 : wr.cell? ⟨g, o + j * 2, none⟩ = some (.int .i64 y1) := (hbw.cell (p := ⟨g, o + j * 2, none⟩) (by rw [World.size_alloc]; simp; omega)).trans ((World.cell?_alloc_lt w _ _ (by simpa using hg)).trans (hcell (j * 2) _ (prs_get hy).1))
      have c2 : wr.cell? ⟨g, o + j * 2 + 1, none⟩ = some (.int .i64 y2) := (hbw.cell (p := ⟨g, o + j * 2 + 1, none⟩) (by rw [World.size_alloc]; simp; omega)).trans ((World.cell?_alloc_lt w _ _ (by simpa using hg)).trans (hcell (j * 2 + 1) _ (prs_get hy).2))
      have hP := (Blk.new w 24 #[.int .i64 n, .int .i64 d]).later hbw (Nat.le_refl _)
      have c3 : wr.cell? ⟨w.heap.size, 0, none⟩ = some (.int .i64 n) := hP.cell 0
      have c4 : wr.cell? ⟨w.heap.size, 1, none⟩ = some (.int .i64 d) := hP.cell 1
      have hgw : g < wr.heap.size := by omega
      have hpw : w.heap.size < wr.heap.size := by omega
      have hjn' : (j : Int) < (l.length : Int) := by omega
      have HY := Lib.hid hy
      clear hy hcell R1 hP
      have hq1 := run_guardF .eql
      cases he : (n == y1 && d == y2)
      · have E := Lib.hid he
        have hq := run_eqF n d y1 y2 false he
        clear he
        go_wp2_with fail
        refine wp_region_calm (by kernel_rfl) (by kernel_rfl) ?_
        repeat (go_big_quiet_step ((fail)))
        refine wpQuiet_nil ?_
        intro w1 hb_w1
        obtain ⟨hc_w1, hf_w1, hs_w1⟩ := bcell hb_w1
        try simp at hs_w1
        go_wp2
        go_roundg (gk - 1)
        case measure => omega
        case rel =>
          refine ⟨j + 1, by omega, by omega, by go_num, ?_, bthen hbw hb_w1 hbw.size⟩
          intro t ht
          by_cases e : t = j
          · subst e
            rw [HY.out]
            intro e
            have := E.out
            injection e with e
            injection e with e1 e2
            subst e1 e2
            simp at this
          · exact HA.out t (by omega)
      · have hq := run_eqF n d y1 y2 true he
        have e1 : idxF l (n, d) 0 = (j : Int) := by
          rw [idx_hit l (n, d) 0 j HA.out (by
            rw [HY.out]
            simp only [Bool.and_eq_true, beq_iff_eq] at he
            rw [he.1, he.2])]
          simp
        obtain rfl : (j : Int) = r := by rw [← HR.out, e1]
        clear he e1 HR
        go_wp2_with fail
        refine wp_region_calm (by kernel_rfl) (by kernel_rfl) ?_
        repeat (go_big_quiet_step ((fail)))
        refine wpQuiet_nil ?_
        intro w1 hb_w1
        obtain ⟨hc_w1, hf_w1, hs_w1⟩ := bcell hb_w1
        try simp at hs_w1
        go_wp2
        go_ret
        refine ⟨by first | rfl | (simp), ?_⟩
        repeat' (first | (with_reducible exact Below.refl _ _) | (with_reducible assumption) | (with_reducible refine Below.alloc ?_ ?_ _) | (with_reducible refine Below.drew ?_) | (with_reducible refine bdrewN ?_ _) | (with_reducible refine Below.setCell ?_ ?_ _) | (with_reducible refine bthen ?_ (by assumption) ?_) | go_size)
    · have e1 : idxF l (n, d) 0 = -1 := idx_miss l (n, d) 0 (fun t ht => HA.out t (by omega))
      obtain rfl : -1 = r := by rw [← HR.out, e1]
      clear e1 HR
      go_wp2
      go_ret
      refine ⟨by first | rfl | (simp), ?_⟩
      repeat' (first | (with_reducible exact Below.refl _ _) | (with_reducible assumption) | (with_reducible refine Below.alloc ?_ ?_ _) | (with_reducible refine Below.drew ?_) | (with_reducible refine bdrewN ?_ _) | (with_reducible refine Below.setCell ?_ ?_ _) | (with_reducible refine bthen ?_ (by assumption) ?_) | go_size)
def RankR (w : World) (l : List (Int × Int)) (p : Int × Int) (k : Nat) (i : Value) (wr : World) : Prop :=
  ∃ j : Nat, j ≤ l.length ∧ l.length ≤ j + k ∧ i = .int .i64 j ∧ (∀ t, t < j → l[t]? ≠ some p) ∧ Below w.heap.size w wr
set_option maxHeartbeats 1000000 in
theorem fareyRankS_any (N n d : Int) (w : World) : Calls Try.prog 48 #[.int .i64 N, .agg #[.int .i64 n, .int .i64 d]] w (Ret w (.tuple #[.int .i64 (rankM N n d).1, .int .i64 (rankM N n d).2])) := by
  by_cases h0 : chkM N 40 n d = 0
  · obtain ⟨a1, a2, a3, a4, a5⟩ := chk_zero h0
    obtain ⟨L1, L2⟩ := farL_len a1 a2
    have H0 := Lib.hid h0
    have hrank : rankM N n d = if idxF (farL N) (n, d) 0 < 0 then (0, 3) else (idxF (farL N) (n, d) 0, 0) := by unfold rankM; rw [if_pos h0]
    generalize hrr : rankM N n d = rr at *
    obtain ⟨r1, r2⟩ := rr
    have HR := Lib.hid hrank
    clear h0 a5 hrank hrr
    go_enter Try.func48, Try.ntmps48
    go_wp2_with fail
    apply Calls.mono
    · with_reducible exact l06Small_any _ _ _ 0 H0.out _
    rintro _ w1 ⟨rfl, hb_w1⟩
    obtain ⟨hc_w1, hf_w1, hs_w1⟩ := bcell hb_w1
    try simp at hs_w1
    have hz_w1_w0 : w.heap.size < w1.heap.size := by omega
    have hy_w1_w0 : w.heap.size ≤ w1.heap.size := by omega
    have hx_w1_w0 : ∀ n : Nat, w.heap.size < w1.heap.size + n := by intro n; omega
    have hv_w1_w0 : ∀ n : Nat, w.heap.size ≤ w1.heap.size + n := by intro n; omega
    go_wp2_with fail
    apply Calls.mono
    · with_reducible exact l06All_any _ a1 a2 _
    rintro _ w2 ⟨v2, rfl, ho2, hb_w2⟩
    obtain ⟨hc_w2, hf_w2, hs_w2⟩ := bcell hb_w2
    try simp at hs_w2
    have hz_w2_w0 : w.heap.size < w2.heap.size := by omega
    have hy_w2_w0 : w.heap.size ≤ w2.heap.size := by omega
    have hx_w2_w0 : ∀ n : Nat, w.heap.size < w2.heap.size + n := by intro n; omega
    have hv_w2_w0 : ∀ n : Nat, w.heap.size ≤ w2.heap.size + n := by intro n; omega
    have hP := ((Blk.new w 24 #[.int .i64 n, .int .i64 d]).later hb_w1 (Nat.le_refl _)).later hb_w2 (Nat.le_refl _)
    obtain ⟨A, c, rfl, hn1, hc1, _, hr1⟩ := Rd.of_own ho2
    have R1 := Lib.hid hr1
    have hcl : ((farL N).length : Int) ≤ 9223372036854775807 := by omega
    clear ho2 hr1
    go_wp2_with fail
    go_loopg [8] (farL N).length (RankR w2 (farL N) (n, d))
    case atStart => exact ⟨0, by omega, by omega, rfl, by omega, Below.refl _ _⟩
    case round =>
      obtain ⟨j, hj1, hj2, rfl, hall, hbw⟩ := hrel
      have HA := Lib.hid hall
      have s1 := hbw.size
      clear hall hc_w1 hf_w1 hc_w2 hf_w2
      by_cases hjn : j < (farL N).length
      · obtain ⟨⟨y1, y2⟩, hy⟩ := get_ex (l := farL N) (k := j) hjn
        rcases R1.out with h0 | ⟨g, o, rfl, hg, hcell⟩
        · omega
        have c1 : wr.cell? ⟨g, o + j * 2, none⟩ = some (.int .i64 y1) := (hbw.cell (p := ⟨g, o + j * 2, none⟩) hg).trans (hcell (j * 2) _ (prs_get hy).1)
        have c2 : wr.cell? ⟨g, o + j * 2 + 1, none⟩ = some (.int .i64 y2) := (hbw.cell (p := ⟨g, o + j * 2 + 1, none⟩) hg).trans (hcell (j * 2 + 1) _ (prs_get hy).2)
        have hPr := hP.later hbw (Nat.le_refl _)
        have c3 : wr.cell? ⟨w.heap.size, 0, none⟩ = some (.int .i64 n) := hPr.cell 0
        have c4 : wr.cell? ⟨w.heap.size, 1, none⟩ = some (.int .i64 d) := hPr.cell 1
        have hgw : g < wr.heap.size := by omega
        have hpw : w.heap.size < wr.heap.size := hPr.lt
        have hjn' : (j : Int) < ((farL N).length : Int) := by omega
        have HY := Lib.hid hy
        clear hy hcell R1 hPr
        have hq1 := run_guardF .eql
        cases he : (y1 == n && y2 == d)
        · have E := Lib.hid he
          have hq := run_eqF y1 y2 n d false he
          clear he
          go_wp2_with fail
          refine wp_region_calm (by kernel_rfl) (by kernel_rfl) ?_
          repeat (go_big_quiet_step ((fail)))
          refine wpQuiet_nil ?_
          intro w3 hb_w3
          obtain ⟨hc_w3, hf_w3, hs_w3⟩ := bcell hb_w3
          try simp at hs_w3
          have hz_w3_w0 : w.heap.size < w3.heap.size := by omega
          have hy_w3_w0 : w.heap.size ≤ w3.heap.size := by omega
          have hx_w3_w0 : ∀ n : Nat, w.heap.size < w3.heap.size + n := by intro n; omega
          have hv_w3_w0 : ∀ n : Nat, w.heap.size ≤ w3.heap.size + n := by intro n; omega
          go_wp2
          go_roundg (gk - 1)
          case measure => omega
          case rel =>
            refine ⟨j + 1, by omega, by omega, by go_num, ?_, bthen hbw hb_w3 hbw.size⟩
            intro t ht
            by_cases e : t = j
            · subst e
              rw [HY.out]
              intro e
              have := E.out
              injection e with e
              injection e with e1 e2
              subst e1 e2
              simp at this
            · exact HA.out t (by omega)
        · have hq := run_eqF y1 y2 n d true he
          have e1 : idxF (farL N) (n, d) 0 = (j : Int) := by
            rw [idx_hit (farL N) (n, d) 0 j HA.out (by
              rw [HY.out]
              simp only [Bool.and_eq_true, beq_iff_eq] at he
              rw [he.1, he.2])]
            simp
          obtain ⟨rfl, rfl⟩ : r1 = (j : Int) ∧ r2 = 0 := by
            have := HR.out
            rw [e1, if_neg (by omega)] at this
            simpa using this
          clear he e1 HR
          go_wp2_with fail
          refine wp_region_calm (by kernel_rfl) (by kernel_rfl) ?_
          repeat (go_big_quiet_step ((fail)))
          refine wpQuiet_nil ?_
          intro w3 hb_w3
          obtain ⟨hc_w3, hf_w3, hs_w3⟩ := bcell hb_w3
          try simp at hs_w3
          have hz_w3_w0 : w.heap.size < w3.heap.size := by omega
          have hy_w3_w0 : w.heap.size ≤ w3.heap.size := by omega
          have hx_w3_w0 : ∀ n : Nat, w.heap.size < w3.heap.size + n := by intro n; omega
          have hv_w3_w0 : ∀ n : Nat, w.heap.size ≤ w3.heap.size + n := by intro n; omega
          go_wp2
          go_ret2
          refine ⟨by first | rfl | (simp), ?_⟩
          repeat' (first | (with_reducible exact Below.refl _ _) | (with_reducible assumption) | (with_reducible refine Below.alloc ?_ ?_ _) | (with_reducible refine Below.drew ?_) | (with_reducible refine bdrewN ?_ _) | (with_reducible refine Below.setCell ?_ ?_ _) | (with_reducible refine bthen ?_ (by assumption) ?_) | go_size)
      · have e1 : idxF (farL N) (n, d) 0 = -1 := idx_miss (farL N) (n, d) 0 (fun t ht => HA.out t (by omega))
        obtain ⟨rfl, rfl⟩ : r1 = 0 ∧ r2 = 3 := by
          have := HR.out
          rw [e1, if_pos (by omega)] at this
          simpa using this
        clear e1 HR
        go_wp2
        go_ret2
        refine ⟨by first | rfl | (simp), ?_⟩
        repeat' (first | (with_reducible exact Below.refl _ _) | (with_reducible assumption) | (with_reducible refine Below.alloc ?_ ?_ _) | (with_reducible refine Below.drew ?_) | (with_reducible refine bdrewN ?_ _) | (with_reducible refine Below.setCell ?_ ?_ _) | (with_reducible refine bthen ?_ (by assumption) ?_) | go_size)
  · have e : rankM N n d = (0, chkM N 40 n d) := by unfold rankM; rw [if_neg h0]
    rw [e]; clear e
    have hne : (chkM N 40 n d != 0) = true := by simpa using h0
    generalize hc : chkM N 40 n d = c at *
    have HC := Lib.hid hc
    clear hc h0
    go_enter Try.func48, Try.ntmps48
    go_wp2_with fail
    apply Calls.mono
    · with_reducible exact l06Small_any _ _ _ c HC.out _
    rintro _ w1 ⟨rfl, hb_w1⟩
    obtain ⟨hc_w1, hf_w1, hs_w1⟩ := bcell hb_w1
    try simp at hs_w1
    have hz_w1_w0 : w.heap.size < w1.heap.size := by omega
    have hy_w1_w0 : w.heap.size ≤ w1.heap.size := by omega
    have hx_w1_w0 : ∀ n : Nat, w.heap.size < w1.heap.size + n := by intro n; omega
    have hv_w1_w0 : ∀ n : Nat, w.heap.size ≤ w1.heap.size + n := by intro n; omega
    go_wp2
    go_ret2
    refine ⟨by first | rfl | (simp), ?_⟩
    repeat' (first | (with_reducible exact Below.refl _ _) | (with_reducible assumption) | (with_reducible refine Below.alloc ?_ ?_ _) | (with_reducible refine Below.drew ?_) | (with_reducible refine bdrewN ?_ _) | (with_reducible refine Below.setCell ?_ ?_ _) | (with_reducible refine bthen ?_ (by assumption) ?_) | go_size)
set_option maxHeartbeats 1000000 in
theorem fareyRankI_any (N n d : Int) (w : World) : Calls Try.prog 47 #[.int .i64 N, .agg #[.int .i64 n, .int .i64 d]] w (Ret w (.tuple #[.int .i64 (rankM N n d).1, .int .i64 (rankM N n d).2])) := by
  by_cases h0 : chkM N 40 n d = 0
  · obtain ⟨a1, a2, a3, a4, a5⟩ := chk_zero h0
    obtain ⟨L1, L2⟩ := farL_len a1 a2
    have H0 := Lib.hid h0
    have hrank : rankM N n d = if idxF (farL N) (n, d) 0 < 0 then (0, 3) else (idxF (farL N) (n, d) 0, 0) := by unfold rankM; rw [if_pos h0]
    generalize hrr : rankM N n d = rr at *
    obtain ⟨r1, r2⟩ := rr
    generalize hii : idxF (farL N) (n, d) 0 = ii at *
    have HI := Lib.hid hii
    have HR := Lib.hid hrank
    clear h0 a5 hrank hrr hii
    go_enter Try.func47, Try.ntmps47
    go_wp2_with fail
    apply Calls.mono
    · with_reducible exact checkFarey_any _ _ _ _ 0 H0.out _
    rintro _ w1 ⟨rfl, hb_w1⟩
    obtain ⟨hc_w1, hf_w1, hs_w1⟩ := bcell hb_w1
    try simp at hs_w1
    have hz_w1_w0 : w.heap.size < w1.heap.size := by omega
    have hy_w1_w0 : w.heap.size ≤ w1.heap.size := by omega
    have hx_w1_w0 : ∀ n : Nat, w.heap.size < w1.heap.size + n := by intro n; omega
    have hv_w1_w0 : ∀ n : Nat, w.heap.size ≤ w1.heap.size + n := by intro n; omega
    have hP1 := (Blk.new w 24 #[.int .i64 n, .int .i64 d]).later hb_w1 (Nat.le_refl _)
    have c1 : w1.cell? ⟨w.heap.size, 0, none⟩ = some (.int .i64 n) := hP1.cell 0
    have c2 : w1.cell? ⟨w.heap.size, 1, none⟩ = some (.int .i64 d) := hP1.cell 1
    clear hc_w1 hf_w1
    go_wp2_with fail
    go_region_held3 (fun w' => w'.cell? ⟨w.heap.size, 0, none⟩ = some (.int .i64 n) ∧ w'.cell? ⟨w.heap.size, 1, none⟩ = some (.int .i64 d))
      (first | (go_split_ands; refine ⟨?_, ?_⟩ <;> first | assumption | exact (hb_w2.cell (by first | (simp; done) | (simp; omega) | omega)).trans (by assumption) | exact (hb_w3.cell (by first | (simp; done) | (simp; omega) | omega)).trans (by assumption)) | go_keep)
      (first | (go_at_call 93; apply Calls.mono; (with_reducible exact farey_any _ a1 a2 _); rintro _ w2 ⟨v2, rfl, ho2, hb_w2⟩; have z2 : w.heap.size < w2.heap.size := Nat.lt_of_lt_of_le (by first | omega | (simp; omega)) hb_w2.size) | (go_at_call 92; apply Calls.mono; (with_reducible exact indexF_any _ _ _ _ _ (Rd.of_own ho2) (by omega) _ HI.out); rintro _ w3 ⟨rfl, hb_w3⟩))
    by_cases hneg : ii < 0
    · obtain ⟨rfl, rfl⟩ : r1 = 0 ∧ r2 = 3 := by
        have := HR.out
        rw [if_pos hneg] at this
        simpa using this
      clear HR
      go_wp2
      go_ret2
      refine ⟨by first | rfl | (simp), ?_⟩
      repeat' (first | (with_reducible exact Below.refl _ _) | (with_reducible assumption) | (with_reducible refine Below.alloc ?_ ?_ _) | (with_reducible refine Below.drew ?_) | (with_reducible refine bdrewN ?_ _) | (with_reducible refine Below.setCell ?_ ?_ _) | (with_reducible refine bthen ?_ (by assumption) ?_) | go_size)
    · obtain ⟨rfl, rfl⟩ : r1 = ii ∧ r2 = 0 := by
        have := HR.out
        rw [if_neg hneg] at this
        simpa using this
      clear HR
      go_wp2
      go_ret2
      refine ⟨by first | rfl | (simp), ?_⟩
      repeat' (first | (with_reducible exact Below.refl _ _) | (with_reducible assumption) | (with_reducible refine Below.alloc ?_ ?_ _) | (with_reducible refine Below.drew ?_) | (with_reducible refine bdrewN ?_ _) | (with_reducible refine Below.setCell ?_ ?_ _) | (with_reducible refine bthen ?_ (by assumption) ?_) | go_size)
  · have e : rankM N n d = (0, chkM N 40 n d) := by unfold rankM; rw [if_neg h0]
    rw [e]; clear e
    have hne : (chkM N 40 n d != 0) = true := by simpa using h0
    generalize hc : chkM N 40 n d = c at *
    have HC := Lib.hid hc
    clear hc h0
    go_enter Try.func47, Try.ntmps47
    go_wp2_with fail
    apply Calls.mono
    · with_reducible exact checkFarey_any _ _ _ _ c HC.out _
    rintro _ w1 ⟨rfl, hb_w1⟩
    obtain ⟨hc_w1, hf_w1, hs_w1⟩ := bcell hb_w1
    try simp at hs_w1
    have hz_w1_w0 : w.heap.size < w1.heap.size := by omega
    have hy_w1_w0 : w.heap.size ≤ w1.heap.size := by omega
    have hx_w1_w0 : ∀ n : Nat, w.heap.size < w1.heap.size + n := by intro n; omega
    have hv_w1_w0 : ∀ n : Nat, w.heap.size ≤ w1.heap.size + n := by intro n; omega
    go_wp2
    go_ret2
    refine ⟨by first | rfl | (simp), ?_⟩
    repeat' (first | (with_reducible exact Below.refl _ _) | (with_reducible assumption) | (with_reducible refine Below.alloc ?_ ?_ _) | (with_reducible refine Below.drew ?_) | (with_reducible refine bdrewN ?_ _) | (with_reducible refine Below.setCell ?_ ?_ _) | (with_reducible refine bthen ?_ (by assumption) ?_) | go_size)
theorem far_ok_all : (List.range 40).all (fun i => (farL (i + 1)).all (fun p => okF p.1 p.2)) = true := by decide +kernel
theorem far_ok {N : Int} (h1 : 1 ≤ N) (h2 : N ≤ 40) (p : Int × Int) (hp : p ∈ farL N) : okF p.1 p.2 = true := by
  have h := List.all_eq_true.1 far_ok_all (N - 1).toNat (List.mem_range.2 (by omega))
  have e : (((N - 1).toNat : Nat) : Int) + 1 = N := by omega
  rw [e] at h
  exact List.all_eq_true.1 h p hp
def touchM (N n d : Int) : List (Int × Int) × Int := if chkM N 40 n d = 0 then ((farL N).filter (fun p => nbF p.1 p.2 n d), 0) else ([], chkM N 40 n d)
def TouchR (w : World) (l : List (Int × Int)) (n d : Int) (k : Nat) (v i : Value) (wr : World) : Prop :=
  ∃ (j : Nat) (xs : List (Int × Int)), j ≤ l.length ∧ l.length ≤ j + k ∧ i = .int .i64 j ∧ xs = (l.take j).filter (fun p => nbF p.1 p.2 n d) ∧ wr.ownsRow w.heap.size 24 2 v xs.length (prs xs) ∧ Below w.heap.size w wr
theorem filter_len {α : Type} (p : α → Bool) (l : List α) (j : Nat) : ((l.take j).filter p).length ≤ l.length := Nat.le_trans (List.length_filter_le _ _) (by rw [List.length_take]; omega)
theorem filter_yes {α : Type} (p : α → Bool) (l : List α) (j : Nat) (y : α) (h : l[j]? = some y) (hp : p y = true) : (l.take (j + 1)).filter p = (l.take j).filter p ++ [y] := by
  rw [List.take_add_one, h, List.filter_append]; simp [hp]
theorem filter_no {α : Type} (p : α → Bool) (l : List α) (j : Nat) (y : α) (h : l[j]? = some y) (hp : p y = false) : (l.take (j + 1)).filter p = (l.take j).filter p := by
  rw [List.take_add_one, h, List.filter_append]; simp [hp]
theorem own_lit0 (w : World) (e : TypeId) (size : Nat) : (w.alloc (.cells #[] e)).ownsRow w.heap.size e size (.slice (some ⟨w.heap.size, 0, none⟩) 0 0) 0 [] :=
  World.ownsRow_lit (base := w.heap.size) (size := size) (e := e) w #[] 0 (Nat.le_refl _) (by simp [maxLen]) (by simp)
theorem l06Touch_r (a b c d : Int) (h1 : okF a b = true) (h2 : okF c d = true) (r : Bool) (hr : nbF a b c d = r) (w : World) :
    Calls Try.prog 97 #[.agg #[.int .i64 a, .int .i64 b], .agg #[.int .i64 c, .int .i64 d]] w (Ret w (.bool r)) := by
  subst hr
  exact l06Touch_any a b c d h1 h2 w
set_option maxHeartbeats 1000000 in
theorem touchingS_any (N n d : Int) (w : World) : Calls Try.prog 50 #[.int .i64 N, .agg #[.int .i64 n, .int .i64 d]] w (RetRow2 w 24 2 (touchM N n d).1.length (prs (touchM N n d).1) (touchM N n d).2) := by
  obtain ⟨i0, hi0, hz0, hz1, hz2⟩ := info_parts Try.infoF
  by_cases h0 : chkM N 40 n d = 0
  · obtain ⟨a1, a2, a3, a4, a5⟩ := chk_zero h0
    obtain ⟨L1, L2⟩ := farL_len a1 a2
    have H0 := Lib.hid h0
    have OK := Lib.hid (far_ok a1 a2)
    have e : touchM N n d = ((farL N).filter (fun p => nbF p.1 p.2 n d), 0) := by unfold touchM; rw [if_pos h0]
    rw [e]; clear e
    have H5 := Lib.hid a5
    clear h0 a5
    go_enter Try.func50, Try.ntmps50
    go_wp2_with fail
    apply Calls.mono
    · with_reducible exact l06Small_any _ _ _ 0 H0.out _
    rintro _ w1 ⟨rfl, hb_w1⟩
    obtain ⟨hc_w1, hf_w1, hs_w1⟩ := bcell hb_w1
    try simp at hs_w1
    have hz_w1_w0 : w.heap.size < w1.heap.size := by omega
    have hy_w1_w0 : w.heap.size ≤ w1.heap.size := by omega
    have hx_w1_w0 : ∀ n : Nat, w.heap.size < w1.heap.size + n := by intro n; omega
    have hv_w1_w0 : ∀ n : Nat, w.heap.size ≤ w1.heap.size + n := by intro n; omega
    go_wp2_with fail
    apply Calls.mono
    · with_reducible exact l06All_any _ a1 a2 _
    rintro _ w2 ⟨v2, rfl, ho2, hb_w2⟩
    obtain ⟨hc_w2, hf_w2, hs_w2⟩ := bcell hb_w2
    try simp at hs_w2
    have hz_w2_w0 : w.heap.size < w2.heap.size := by omega
    have hy_w2_w0 : w.heap.size ≤ w2.heap.size := by omega
    have hx_w2_w0 : ∀ n : Nat, w.heap.size < w2.heap.size + n := by intro n; omega
    have hv_w2_w0 : ∀ n : Nat, w.heap.size ≤ w2.heap.size + n := by intro n; omega
    have hP := ((Blk.new w 24 #[.int .i64 n, .int .i64 d]).later hb_w1 (Nat.le_refl _)).later hb_w2 (Nat.le_refl _)
    have hbw2 : Below w.heap.size w w2 := by
      repeat' (first | (with_reducible exact Below.refl _ _) | (with_reducible assumption) | (with_reducible refine Below.alloc ?_ ?_ _) | (with_reducible refine Below.drew ?_) | (with_reducible refine bdrewN ?_ _) | (with_reducible refine Below.setCell ?_ ?_ _) | (with_reducible refine bthen ?_ (by assumption) ?_) | go_size)
    have hZ := Lib.hid (own_lit0 w2 24 2)
    obtain ⟨A, c, rfl, hn1, hc1, _, hr1⟩ := Rd.of_own ho2
    have R1 := Lib.hid hr1
    have hcl : ((farL N).length : Int) ≤ 9223372036854775807 := by omega
    have sP := hP.lt
    clear ho2 hr1 hc_w1 hf_w1 hc_w2 hf_w2
    generalize hLL : farL N = L at *
    have HLL := Lib.hid hLL
    clear hLL
    go_wp2_with fail
    go_loopg [8, 9] L.length (TouchR w2 L n d)
    case atStart => exact ⟨0, [], by omega, by omega, rfl, by simp, hZ.out, by repeat' (first | (with_reducible exact Below.refl _ _) | (with_reducible assumption) | (with_reducible refine Below.alloc ?_ ?_ _) | (with_reducible refine Below.drew ?_) | (with_reducible refine bdrewN ?_ _) | (with_reducible refine Below.setCell ?_ ?_ _) | (with_reducible refine bthen ?_ (by assumption) ?_) | go_size)⟩
    case round =>
      obtain ⟨j, xs, hj1, hj2, rfl, hxs, hown, hbw⟩ := hrel
      have HXS := Lib.hid hxs
      have hxl : xs.length ≤ 600 := by rw [hxs]; exact Nat.le_trans (filter_len _ _ _) L2
      have s1 := hbw.size
      clear hxs
      by_cases hjn : j < L.length
      · obtain ⟨⟨y1, y2⟩, hy⟩ := get_ex (l := L) (k := j) hjn
        have hyo := OK.out (y1, y2) (List.mem_of_getElem? hy)
        have HYO := Lib.hid hyo
        rcases R1.out with h0 | ⟨g, o, rfl, hg, hcell⟩
        · omega
        have c1 : wr.cell? ⟨g, o + j * 2, none⟩ = some (.int .i64 y1) := (hbw.cell (p := ⟨g, o + j * 2, none⟩) hg).trans (hcell (j * 2) _ (prs_get hy).1)
        have c2 : wr.cell? ⟨g, o + j * 2 + 1, none⟩ = some (.int .i64 y2) := (hbw.cell (p := ⟨g, o + j * 2 + 1, none⟩) hg).trans (hcell (j * 2 + 1) _ (prs_get hy).2)
        have hPr := hP.later hbw (Nat.le_refl _)
        have c3 : wr.cell? ⟨w.heap.size, 0, none⟩ = some (.int .i64 n) := hPr.cell 0
        have c4 : wr.cell? ⟨w.heap.size, 1, none⟩ = some (.int .i64 d) := hPr.cell 1
        have hgw : g < wr.heap.size := by omega
        have hpw : w.heap.size < wr.heap.size := hPr.lt
        have hjn' : (j : Int) < (L.length : Int) := by omega
        have HY := Lib.hid hy
        clear hy hyo hcell R1 hPr
        cases hnb : nbF y1 y2 n d
        · have HN := Lib.hid hnb
          clear hnb
          go_wp2_with fail
          refine wp_region_calm (by kernel_rfl) (by kernel_rfl) ?_
          repeat (go_big_quiet_step ((with_reducible exact calm (l06Touch_r _ _ _ _ HYO.out H5.out false HN.out _))))
          refine wpQuiet_nil ?_
          intro w3 hb_w3
          obtain ⟨hc_w3, hf_w3, hs_w3⟩ := bcell hb_w3
          try simp at hs_w3
          have hz_w3_w0 : w.heap.size < w3.heap.size := by omega
          have hy_w3_w0 : w.heap.size ≤ w3.heap.size := by omega
          have hx_w3_w0 : ∀ n : Nat, w.heap.size < w3.heap.size + n := by intro n; omega
          have hv_w3_w0 : ∀ n : Nat, w.heap.size ≤ w3.heap.size + n := by intro n; omega
          go_wp2
          go_roundg (gk - 1)
          case measure => omega
          case rel =>
            refine ⟨j + 1, xs, by omega, by omega, by go_num, ?_, own_below hown hb_w3 (Nat.le_refl _), bthen hbw hb_w3 hbw.size⟩
            rw [filter_no _ _ _ _ HY.out HN.out]; exact HXS.out
        · have HN := Lib.hid hnb
          clear hnb
          go_wp2_with fail
          refine wp_region_calm (by kernel_rfl) (by kernel_rfl) ?_
          repeat (go_big_quiet_step ((with_reducible exact calm (l06Touch_r _ _ _ _ HYO.out H5.out true HN.out _))))
          refine wpQuiet_nil ?_
          intro w3 hb_w3
          obtain ⟨hc_w3, hf_w3, hs_w3⟩ := bcell hb_w3
          try simp at hs_w3
          have hz_w3_w0 : w.heap.size < w3.heap.size := by omega
          have hy_w3_w0 : w.heap.size ≤ w3.heap.size := by omega
          have hx_w3_w0 : ∀ n : Nat, w.heap.size < w3.heap.size + n := by intro n; omega
          have hv_w3_w0 : ∀ n : Nat, w.heap.size ≤ w3.heap.size + n := by intro n; omega
          have hown3 := own_below hown hb_w3 (Nat.le_refl _)
          have s3 := hb_w3.size
          clear hown
          go_wp2_with (at_builtin; refine wpList_append_own_at _ rfl (.tmp 31) (.tmp 36) 57 rfl w2.heap.size 24 i0 _ 2 16 Try.underlying57 hi0 hz0 hz1 hz2 rfl (by decide) _ xs.length (prs xs) rfl (hown3.alloc _) ⟨w3.heap.size, 0, none⟩ 1 1 [.int .i64 y1, .int .i64 y2] rfl rfl (World.news_of_block (cs := #[.int .i64 y1, .int .i64 y2]) (t := 24) (fr := (0, 0)) (heap_alloc_new w3 _)) (by simp [Value.oneCell']) (by simp only [maxLen]; omega) (by omega) (by simp; omega) ?_; intro v4 w4 hown4 hgr4 _ _)
          have hb4 := grown_below (hown3.alloc (.cells #[.int .i64 y1, .int .i64 y2] 24)) hgr4 (B := w2.heap.size) (Nat.le_refl _) (by rw [World.size_alloc]; omega)
          go_roundg (gk - 1)
          case measure => omega
          case rel =>
            refine ⟨j + 1, xs ++ [(y1, y2)], by omega, by omega, by go_num, ?_, ?_, ?_⟩
            · rw [filter_yes _ _ _ _ HY.out HN.out, ← HXS.out]
            · rw [List.length_append, prs_snoc]; exact hown4
            · exact (bthen hbw hb_w3 hbw.size).trans (((Below.refl _ _).alloc (by omega) _).trans hb4)
      · have e1 : xs = L.filter (fun p => nbF p.1 p.2 n d) := by
          rw [HXS.out, List.take_of_length_le (by omega)]
        have E1 := Lib.hid e1
        clear e1
        go_wp2
        go_ret2
        refine ⟨_, rfl, ?_, bthen hbw2 hbw hbw2.size⟩
        rw [HLL.out, ← E1.out]
        exact own_base hown hbw2.size
  · have e : touchM N n d = ([], chkM N 40 n d) := by unfold touchM; rw [if_neg h0]
    rw [e]; clear e
    have hne : (chkM N 40 n d != 0) = true := by simpa using h0
    generalize hc : chkM N 40 n d = c at *
    have HC := Lib.hid hc
    clear hc h0
    go_enter Try.func50, Try.ntmps50
    go_wp2_with fail
    apply Calls.mono
    · with_reducible exact l06Small_any _ _ _ c HC.out _
    rintro _ w1 ⟨rfl, hb_w1⟩
    obtain ⟨hc_w1, hf_w1, hs_w1⟩ := bcell hb_w1
    try simp at hs_w1
    have hz_w1_w0 : w.heap.size < w1.heap.size := by omega
    have hy_w1_w0 : w.heap.size ≤ w1.heap.size := by omega
    have hx_w1_w0 : ∀ n : Nat, w.heap.size < w1.heap.size + n := by intro n; omega
    have hv_w1_w0 : ∀ n : Nat, w.heap.size ≤ w1.heap.size + n := by intro n; omega
    go_wp2
    go_ret2
    refine ⟨_, rfl, World.ownsRow_nil _ _ _ _, ?_⟩
    repeat' (first | (with_reducible exact Below.refl _ _) | (with_reducible assumption) | (with_reducible refine Below.alloc ?_ ?_ _) | (with_reducible refine Below.drew ?_) | (with_reducible refine bdrewN ?_ _) | (with_reducible refine Below.setCell ?_ ?_ _) | (with_reducible refine bthen ?_ (by assumption) ?_) | go_size)
set_option maxHeartbeats 1000000 in
theorem touchingI_any (N n d : Int) (w : World) : Calls Try.prog 49 #[.int .i64 N, .agg #[.int .i64 n, .int .i64 d]] w (RetRow2 w 24 2 (touchM N n d).1.length (prs (touchM N n d).1) (touchM N n d).2) := by
  obtain ⟨i0, hi0, hz0, hz1, hz2⟩ := info_parts Try.infoF
  by_cases h0 : chkM N 40 n d = 0
  · obtain ⟨a1, a2, a3, a4, a5⟩ := chk_zero h0
    obtain ⟨L1, L2⟩ := farL_len a1 a2
    have H0 := Lib.hid h0
    have OK := Lib.hid (far_ok a1 a2)
    have e : touchM N n d = ((farL N).filter (fun p => nbF p.1 p.2 n d), 0) := by unfold touchM; rw [if_pos h0]
    rw [e]; clear e
    have H5 := Lib.hid a5
    clear h0 a5
    go_enter Try.func49, Try.ntmps49
    go_wp2_with fail
    apply Calls.mono
    · with_reducible exact checkFarey_any _ _ _ _ 0 H0.out _
    rintro _ w1 ⟨rfl, hb_w1⟩
    obtain ⟨hc_w1, hf_w1, hs_w1⟩ := bcell hb_w1
    try simp at hs_w1
    have hz_w1_w0 : w.heap.size < w1.heap.size := by omega
    have hy_w1_w0 : w.heap.size ≤ w1.heap.size := by omega
    have hx_w1_w0 : ∀ n : Nat, w.heap.size < w1.heap.size + n := by intro n; omega
    have hv_w1_w0 : ∀ n : Nat, w.heap.size ≤ w1.heap.size + n := by intro n; omega
    go_wp2_with fail
    apply Calls.mono
    · with_reducible exact farey_any _ a1 a2 _
    rintro _ w2 ⟨v2, rfl, ho2, hb_w2⟩
    obtain ⟨hc_w2, hf_w2, hs_w2⟩ := bcell hb_w2
    try simp at hs_w2
    have hz_w2_w0 : w.heap.size < w2.heap.size := by omega
    have hy_w2_w0 : w.heap.size ≤ w2.heap.size := by omega
    have hx_w2_w0 : ∀ n : Nat, w.heap.size < w2.heap.size + n := by intro n; omega
    have hv_w2_w0 : ∀ n : Nat, w.heap.size ≤ w2.heap.size + n := by intro n; omega
    have hP := ((Blk.new w 24 #[.int .i64 n, .int .i64 d]).later hb_w1 (Nat.le_refl _)).later hb_w2 (Nat.le_refl _)
    have hbw2 : Below w.heap.size w w2 := by
      repeat' (first | (with_reducible exact Below.refl _ _) | (with_reducible assumption) | (with_reducible refine Below.alloc ?_ ?_ _) | (with_reducible refine Below.drew ?_) | (with_reducible refine bdrewN ?_ _) | (with_reducible refine Below.setCell ?_ ?_ _) | (with_reducible refine bthen ?_ (by assumption) ?_) | go_size)
    obtain ⟨A, c, rfl, hn1, hc1, _, hr1⟩ := Rd.of_own ho2
    have R1 := Lib.hid hr1
    have hcl : ((farL N).length : Int) ≤ 9223372036854775807 := by omega
    have sP := hP.lt
    clear ho2 hr1 hc_w1 hf_w1 hc_w2 hf_w2
    generalize hLL : farL N = L at *
    have HLL := Lib.hid hLL
    clear hLL
    go_wp2_with fail
    go_loopg [7, 19] L.length (TouchR w2 L n d)
    case atStart => exact ⟨0, [], by omega, by omega, rfl, by simp, World.ownsRow_nil _ _ _ _, Below.refl _ _⟩
    case round =>
      obtain ⟨j, xs, hj1, hj2, rfl, hxs, hown, hbw⟩ := hrel
      have HXS := Lib.hid hxs
      have hxl : xs.length ≤ 600 := by rw [hxs]; exact Nat.le_trans (filter_len _ _ _) L2
      have s1 := hbw.size
      clear hxs
      by_cases hjn : j < L.length
      · obtain ⟨⟨y1, y2⟩, hy⟩ := get_ex (l := L) (k := j) hjn
        have hyo := OK.out (y1, y2) (List.mem_of_getElem? hy)
        have HYO := Lib.hid hyo
        rcases R1.out with h0 | ⟨g, o, rfl, hg, hcell⟩
        · omega
        have c1 : wr.cell? ⟨g, o + j * 2, none⟩ = some (.int .i64 y1) := (hbw.cell (p := ⟨g, o + j * 2, none⟩) hg).trans (hcell (j * 2) _ (prs_get hy).1)
        have c2 : wr.cell? ⟨g, o + j * 2 + 1, none⟩ = some (.int .i64 y2) := (hbw.cell (p := ⟨g, o + j * 2 + 1, none⟩) hg).trans (hcell (j * 2 + 1) _ (prs_get hy).2)
        have hPr := hP.later hbw (Nat.le_refl _)
        have c3 : wr.cell? ⟨w.heap.size, 0, none⟩ = some (.int .i64 n) := hPr.cell 0
        have c4 : wr.cell? ⟨w.heap.size, 1, none⟩ = some (.int .i64 d) := hPr.cell 1
        have hgw : g < wr.heap.size := by omega
        have hpw : w.heap.size < wr.heap.size := hPr.lt
        have hpn : w.heap.size ≠ wr.heap.size := by omega
        have hjn' : (j : Int) < (L.length : Int) := by omega
        have HY := Lib.hid hy
        have hN0 := Blk.new wr 24 #[.int .i64 y1, .int .i64 y2]
        clear hy hyo hcell R1 hPr
        cases hnb : nbF y1 y2 n d
        · have HN := Lib.hid (show (okF y1 y2 && okF n d && nbF y1 y2 n d) = false by rw [hnb]; simp)
          have HN2 := Lib.hid hnb
          clear hnb
          go_wp2_with fail
          apply Calls.mono
          · with_reducible exact areNeighbours_any _ _ _ _ _ HN.out _
          rintro _ w3 ⟨rfl, hb_w3⟩
          obtain ⟨hc_w3, hf_w3, hs_w3⟩ := bcell hb_w3
          try simp at hs_w3
          have hz_w3_w0 : w.heap.size < w3.heap.size := by omega
          have hy_w3_w0 : w.heap.size ≤ w3.heap.size := by omega
          have hx_w3_w0 : ∀ n : Nat, w.heap.size < w3.heap.size + n := by intro n; omega
          have hv_w3_w0 : ∀ n : Nat, w.heap.size ≤ w3.heap.size + n := by intro n; omega
          go_wp2
          go_roundg (gk - 1)
          case measure => omega
          case rel =>
            refine ⟨j + 1, xs, by omega, by omega, by go_num, ?_, own_below (hown.alloc _) hb_w3 (Nat.le_refl _), (hbw.alloc (by omega) _).trans (hb_w3.mono (by rw [World.size_alloc]; omega))⟩
            rw [filter_no _ _ _ _ HY.out HN2.out]; exact HXS.out
        · have HN := Lib.hid (show (okF y1 y2 && okF n d && nbF y1 y2 n d) = true by rw [hnb, HYO.out, H5.out]; rfl)
          have HN2 := Lib.hid hnb
          clear hnb
          go_wp2_with fail
          apply Calls.mono
          · with_reducible exact areNeighbours_any _ _ _ _ _ HN.out _
          rintro _ w3 ⟨rfl, hb_w3⟩
          obtain ⟨hc_w3, hf_w3, hs_w3⟩ := bcell hb_w3
          try simp at hs_w3
          have hz_w3_w0 : w.heap.size < w3.heap.size := by omega
          have hy_w3_w0 : w.heap.size ≤ w3.heap.size := by omega
          have hx_w3_w0 : ∀ n : Nat, w.heap.size < w3.heap.size + n := by intro n; omega
          have hv_w3_w0 : ∀ n : Nat, w.heap.size ≤ w3.heap.size + n := by intro n; omega
          have hown3 := own_below (hown.alloc (.cells #[.int .i64 y1, .int .i64 y2] 24)) hb_w3 (Nat.le_refl _)
          have hN3 := hN0.later hb_w3 (Nat.le_refl _)
          have d1 : w3.cell? ⟨wr.heap.size, 0, none⟩ = some (.int .i64 y1) := hN3.cell 0
          have d2 : w3.cell? ⟨wr.heap.size, 1, none⟩ = some (.int .i64 y2) := hN3.cell 1
          have hb3 := hbw.trans (((Below.refl w2.heap.size wr).alloc s1 (.cells #[.int .i64 y1, .int .i64 y2] 24)).trans (hb_w3.mono (by rw [World.size_alloc]; omega)))
          clear hown hc_w3 hf_w3
          go_wp2_with (at_builtin; refine wpList_append_own_at _ rfl (.tmp 26) (.tmp 28) 57 rfl w2.heap.size 24 i0 _ 2 16 Try.underlying57 hi0 hz0 hz1 hz2 rfl (by decide) _ xs.length (prs xs) rfl (hown3.alloc _) ⟨w3.heap.size, 0, none⟩ 1 1 [.int .i64 y1, .int .i64 y2] rfl rfl (World.news_of_block (cs := #[.int .i64 y1, .int .i64 y2]) (t := 24) (fr := (0, 0)) (heap_alloc_new w3 _)) (by simp [Value.oneCell']) (by simp only [maxLen]; omega) (by omega) (by simp; omega) ?_; intro v4 w4 hown4 hgr4 _ _)
          have hb4 := grown_below (hown3.alloc (.cells #[.int .i64 y1, .int .i64 y2] 24)) hgr4 (B := w2.heap.size) (Nat.le_refl _) (by rw [World.size_alloc]; omega)
          go_roundg (gk - 1)
          case measure => omega
          case rel =>
            refine ⟨j + 1, xs ++ [(y1, y2)], by omega, by omega, by go_num, ?_, ?_, ?_⟩
            · rw [filter_yes _ _ _ _ HY.out HN2.out, ← HXS.out]
            · rw [List.length_append, prs_snoc]; exact hown4
            · exact hb3.trans (((Below.refl _ _).alloc (by omega) _).trans hb4)
      · have e1 : xs = L.filter (fun p => nbF p.1 p.2 n d) := by
          rw [HXS.out, List.take_of_length_le (by omega)]
        have E1 := Lib.hid e1
        clear e1
        go_wp2
        go_ret2
        refine ⟨_, rfl, ?_, bthen hbw2 hbw hbw2.size⟩
        rw [HLL.out, ← E1.out]
        exact own_base hown hbw2.size
  · have e : touchM N n d = ([], chkM N 40 n d) := by unfold touchM; rw [if_neg h0]
    rw [e]; clear e
    have hne : (chkM N 40 n d != 0) = true := by simpa using h0
    generalize hc : chkM N 40 n d = c at *
    have HC := Lib.hid hc
    clear hc h0
    go_enter Try.func49, Try.ntmps49
    go_wp2_with fail
    apply Calls.mono
    · with_reducible exact checkFarey_any _ _ _ _ c HC.out _
    rintro _ w1 ⟨rfl, hb_w1⟩
    obtain ⟨hc_w1, hf_w1, hs_w1⟩ := bcell hb_w1
    try simp at hs_w1
    have hz_w1_w0 : w.heap.size < w1.heap.size := by omega
    have hy_w1_w0 : w.heap.size ≤ w1.heap.size := by omega
    have hx_w1_w0 : ∀ n : Nat, w.heap.size < w1.heap.size + n := by intro n; omega
    have hv_w1_w0 : ∀ n : Nat, w.heap.size ≤ w1.heap.size + n := by intro n; omega
    go_wp2
    go_ret2
    refine ⟨_, rfl, World.ownsRow_nil _ _ _ _, ?_⟩
    repeat' (first | (with_reducible exact Below.refl _ _) | (with_reducible assumption) | (with_reducible refine Below.alloc ?_ ?_ _) | (with_reducible refine Below.drew ?_) | (with_reducible refine bdrewN ?_ _) | (with_reducible refine Below.setCell ?_ ?_ _) | (with_reducible refine bthen ?_ (by assumption) ?_) | go_size)
end Go.Proofs.Ytlmmpeeacjbobaa
