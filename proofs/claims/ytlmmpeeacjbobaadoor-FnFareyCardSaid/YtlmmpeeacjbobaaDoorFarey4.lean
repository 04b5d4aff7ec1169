/-
  The place of an element in a Farey sequence, and the elements whose circles touch that on a fraction.
-/
import Derived.Test.YtlmmpeeacjbobaaDoorFarey3
import Derived.Deep.RegionHeld3
namespace Go.Proofs.YtlmmpeeacjbobaaDoor
open Go.RowKit

/-- The place of p in a list, counted from k on; -1 if it is not there. -/
def idxF : List (Int × Int) → Int × Int → Nat → Int
  | [], _, _ => -1
  | x :: xs, p, k => if x = p then (k : Int) else idxF xs p (k + 1)
theorem idx_hit (l : List (Int × Int)) (p : Int × Int) (k j : Nat) (h : ∀ t, t < j → l[t]? ≠ some p) (hj : l[j]? = some p) : idxF l p k = ((k + j : Nat) : Int) := by
  induction l generalizing k j with
  | nil => simp at hj
  | cons x xs ih =>
    unfold idxF
    cases j with
    | zero => simp at hj; rw [if_pos hj]; simp
    | succ j =>
      rw [if_neg (fun e => h 0 (by omega) (by simp [e]))]
      rw [ih (k + 1) j (fun t ht => by have := h (t + 1) (by omega); simpa using this) (by simpa using hj)]
      congr 1; omega
theorem idx_miss (l : List (Int × Int)) (p : Int × Int) (k : Nat) (h : ∀ t, t < l.length → l[t]? ≠ some p) : idxF l p k = -1 := by
  induction l generalizing k with
  | nil => rfl
  | cons x xs ih =>
    unfold idxF
    rw [if_neg (fun e => h 0 (by simp) (by simp [e]))]
    exact ih (k + 1) (fun t ht => by have := h (t + 1) (by simp; omega); simpa using this)
def IdxR (w : World) (l : List (Int × Int)) (p : Int × Int) (k : Nat) (i : Value) (wr : World) : Prop :=
  ∃ j : Nat, j ≤ l.length ∧ l.length ≤ j + k ∧ i = .int .i64 j ∧ (∀ t, t < j → l[t]? ≠ some p) ∧ Below w.heap.size w wr
def rankM (N n d : Int) : Int × Int := if chkM N 40 n d = 0 then (if idxF (farL N) (n, d) 0 < 0 then (0, 3) else (idxF (farL N) (n, d) 0, 0)) else (0, chkM N 40 n d)

set_option maxHeartbeats 1000000 in
theorem indexF_any (v : Value) (n d : Int) (l : List (Int × Int)) (w : World) (hv : Rd w 2 v l.length (prs l)) (hlen : l.length ≤ 1048576) (r : Int) (hr : idxF l (n, d) 0 = r) :
    Calls Tryd.prog 61 #[v, .agg #[.int .i64 n, .int .i64 d]] w (Ret w (.int .i64 r)) := by
  obtain ⟨A, c, rfl, hn1, hc1, _, hr1⟩ := hv
  have R1 := Lib.hid hr1
  have HR := Lib.hid hr
  clear hr1 hr
  go_enter Tryd.func61, Tryd.ntmps61
  go_wp2_with fail
  go_loopg [8] l.length (IdxR (w.alloc (.cells #[.int .i64 n, .int .i64 d] 43)) l (n, d))
  case atStart => exact ⟨0, by omega, by omega, rfl, by omega, Below.refl _ _⟩
  case round =>
    obtain ⟨j, hj1, hj2, rfl, hall, hbw⟩ := hrel
    have HA := Lib.hid hall
    clear hall
    have hs := hbw.size
    rw [World.size_alloc] at hs
    by_cases hjn : j < l.length
    · obtain ⟨⟨y1, y2⟩, hy⟩ := get_ex (l := l) (k := j) hjn
      rcases R1.out with h0 | ⟨g, o, rfl, hg, hcell⟩
      · omega
      have c1 : wr.cell? ⟨g, o + j * 2, none⟩ = some (.int .i64 y1) := (hbw.cell (p := ⟨g, o + j * 2, none⟩) (by rw [World.size_alloc]; simp; omega)).trans ((World.cell?_alloc_lt w _ _ (by simpa using hg)).trans (hcell (j * 2) _ (prs_get hy).1))
      have c2 : wr.cell? ⟨g, o + j * 2 + 1, none⟩ = some (.int .i64 y2) := (hbw.cell (p := ⟨g, o + j * 2 + 1, none⟩) (by rw [World.size_alloc]; simp; omega)).trans ((World.cell?_alloc_lt w _ _ (by simpa using hg)).trans (hcell (j * 2 + 1) _ (prs_get hy).2))
      have hP := (Blk.new w 43 #[.int .i64 n, .int .i64 d]).later hbw (Nat.le_refl _)
      have c3 : wr.cell? ⟨w.heap.size, 0, none⟩ = some (.int .i64 n) := hP.cell 0
      have c4 : wr.cell? ⟨w.heap.size, 1, none⟩ = some (.int .i64 d) := hP.cell 1
      have hgw : g < wr.heap.size := by omega
      have hpw : w.heap.size < wr.heap.size := by omega
      have hjn' : (j : Int) < (l.length : Int) := by omega
      have HY := Lib.hid hy
      clear hy hcell R1 hP
      have hq1 := run_guardF .eql
      cases he : (n == y1 && d == y2)
      · have E := Lib.hid he
        have hq := run_eqF n d y1 y2 false he
        clear he
        go_wp2_with fail
        refine wp_region_calm (by kernel_rfl) (by kernel_rfl) ?_
        repeat (go_big_quiet_step ((fail)))
        refine wpQuiet_nil ?_
        intro w1 hb_w1
        obtain ⟨hc_w1, hf_w1, hs_w1⟩ := bcell hb_w1
        try simp at hs_w1
        go_wp2
        go_roundg (gk - 1)
        case measure => omega
        case rel =>
          refine ⟨j + 1, by omega, by omega, by go_num, ?_, bthen hbw hb_w1 hbw.size⟩
          intro t ht
          by_cases e : t = j
          · subst e
            rw [HY.out]
            intro e
            have := E.out
            injection e with e
            injection e with e1 e2
            subst e1 e2
            simp at this
          · exact HA.out t (by omega)
      · have hq := run_eqF n d y1 y2 true he
        have e1 : idxF l (n, d) 0 = (j : Int) := by
          rw [idx_hit l (n, d) 0 j HA.out (by
            rw [HY.out]
            simp only [Bool.and_eq_true, beq_iff_eq] at he
            rw [he.1, he.2])]
          simp
        obtain rfl : (j : Int) = r := by rw [← HR.out, e1]
        clear he e1 HR
        go_wp2_with fail
        refine wp_region_calm (by kernel_rfl) (by kernel_rfl) ?_
        repeat (go_big_quiet_step ((fail)))
        refine wpQuiet_nil ?_
        intro w1 hb_w1
        obtain ⟨hc_w1, hf_w1, hs_w1⟩ := bcell hb_w1
        try simp at hs_w1
        go_wp2
        go_ret
        refine ⟨by first | rfl | (simp), ?_⟩
        repeat' (first | (with_reducible exact Below.refl _ _) | (with_reducible assumption) | (with_reducible refine Below.alloc ?_ ?_ _) | (with_reducible refine Below.drew ?_) | (with_reducible refine bdrewN ?_ _) | (with_reducible refine Below.setCell ?_ ?_ _) | (with_reducible refine bthen ?_ (by assumption) ?_) | go_size)
    · have e1 : idxF l (n, d) 0 = -1 := idx_miss l (n, d) 0 (fun t ht => HA.out t (by omega))
      obtain rfl : -1 = r := by rw [← HR.out, e1]
      clear e1 HR
      go_wp2
      go_ret
      refine ⟨by first | rfl | (simp), ?_⟩
      repeat' (first | (with_reducible exact Below.refl _ _) | (with_reducible assumption) | (with_reducible refine Below.alloc ?_ ?_ _) | (with_reducible refine Below.drew ?_) | (with_reducible refine bdrewN ?_ _) | (with_reducible refine Below.setCell ?_ ?_ _) | (with_reducible refine bthen ?_ (by assumption) ?_) | go_size)
set_option maxHeartbeats 1000000 in
theorem fareyRankI_any (N n d : Int) (w : World) : Calls Tryd.prog 32 #[.int .i64 N, .agg #[.int .i64 n, .int .i64 d]] w (Ret w (.tuple #[.int .i64 (rankM N n d).1, .int .i64 (rankM N n d).2])) := by
  by_cases h0 : chkM N 40 n d = 0
  · obtain ⟨a1, a2, a3, a4, a5⟩ := chk_zero h0
    obtain ⟨L1, L2⟩ := farL_len a1 a2
    have H0 := Lib.hid h0
    have hrank : rankM N n d = if idxF (farL N) (n, d) 0 < 0 then (0, 3) else (idxF (farL N) (n, d) 0, 0) := by unfold rankM; rw [if_pos h0]
    generalize hrr : rankM N n d = rr at *
    obtain ⟨r1, r2⟩ := rr
    generalize hii : idxF (farL N) (n, d) 0 = ii at *
    have HI := Lib.hid hii
    have HR := Lib.hid hrank
    clear h0 a5 hrank hrr hii
    go_enter Tryd.func32, Tryd.ntmps32
    go_wp2_with fail
    apply Calls.mono
    · with_reducible exact checkFarey_any _ _ _ _ 0 H0.out _
    rintro _ w1 ⟨rfl, hb_w1⟩
    obtain ⟨hc_w1, hf_w1, hs_w1⟩ := bcell hb_w1
    try simp at hs_w1
    have hz_w1_w0 : w.heap.size < w1.heap.size := by omega
    have hy_w1_w0 : w.heap.size ≤ w1.heap.size := by omega
    have hx_w1_w0 : ∀ n : Nat, w.heap.size < w1.heap.size + n := by intro n; omega
    have hv_w1_w0 : ∀ n : Nat, w.heap.size ≤ w1.heap.size + n := by intro n; omega
    have hP1 := (Blk.new w 43 #[.int .i64 n, .int .i64 d]).later hb_w1 (Nat.le_refl _)
    have c1 : w1.cell? ⟨w.heap.size, 0, none⟩ = some (.int .i64 n) := hP1.cell 0
    have c2 : w1.cell? ⟨w.heap.size, 1, none⟩ = some (.int .i64 d) := hP1.cell 1
    clear hc_w1 hf_w1
    go_wp2_with fail
    go_region_held3 (fun w' => w'.cell? ⟨w.heap.size, 0, none⟩ = some (.int .i64 n) ∧ w'.cell? ⟨w.heap.size, 1, none⟩ = some (.int .i64 d))
      (first | (go_split_ands; refine ⟨?_, ?_⟩ <;> first | assumption | exact (hb_w2.cell (by first | (simp; done) | (simp; omega) | omega)).trans (by assumption) | exact (hb_w3.cell (by first | (simp; done) | (simp; omega) | omega)).trans (by assumption)) | go_keep)
      (first | (go_at_call 48; apply Calls.mono; (with_reducible exact farey_any _ a1 a2 _); rintro _ w2 ⟨v2, rfl, ho2, hb_w2⟩; have z2 : w.heap.size < w2.heap.size := Nat.lt_of_lt_of_le (by first | omega | (simp; omega)) hb_w2.size) | (go_at_call 61; apply Calls.mono; (with_reducible exact indexF_any _ _ _ _ _ (Rd.of_own ho2) (by omega) _ HI.out); rintro _ w3 ⟨rfl, hb_w3⟩))
    by_cases hneg : ii < 0
    · obtain ⟨rfl, rfl⟩ : r1 = 0 ∧ r2 = 3 := by
        have := HR.out
        rw [if_pos hneg] at this
        simpa using this
      clear HR
      go_wp2
      go_ret2
      refine ⟨by first | rfl | (simp), ?_⟩
      repeat' (first | (with_reducible exact Below.refl _ _) | (with_reducible assumption) | (with_reducible refine Below.alloc ?_ ?_ _) | (with_reducible refine Below.drew ?_) | (with_reducible refine bdrewN ?_ _) | (with_reducible refine Below.setCell ?_ ?_ _) | (with_reducible refine bthen ?_ (by assumption) ?_) | go_size)
    · obtain ⟨rfl, rfl⟩ : r1 = ii ∧ r2 = 0 := by
        have := HR.out
        rw [if_neg hneg] at this
        simpa using this
      clear HR
      go_wp2
      go_ret2
      refine ⟨by first | rfl | (simp), ?_⟩
      repeat' (first | (with_reducible exact Below.refl _ _) | (with_reducible assumption) | (with_reducible refine Below.alloc ?_ ?_ _) | (with_reducible refine Below.drew ?_) | (with_reducible refine bdrewN ?_ _) | (with_reducible refine Below.setCell ?_ ?_ _) | (with_reducible refine bthen ?_ (by assumption) ?_) | go_size)
  · have e : rankM N n d = (0, chkM N 40 n d) := by unfold rankM; rw [if_neg h0]
    rw [e]; clear e
    have hne : (chkM N 40 n d != 0) = true := by simpa using h0
    generalize hc : chkM N 40 n d = c at *
    have HC := Lib.hid hc
    clear hc h0
    go_enter Tryd.func32, Tryd.ntmps32
    go_wp2_with fail
    apply Calls.mono
    · with_reducible exact checkFarey_any _ _ _ _ c HC.out _
    rintro _ w1 ⟨rfl, hb_w1⟩
    obtain ⟨hc_w1, hf_w1, hs_w1⟩ := bcell hb_w1
    try simp at hs_w1
    have hz_w1_w0 : w.heap.size < w1.heap.size := by omega
    have hy_w1_w0 : w.heap.size ≤ w1.heap.size := by omega
    have hx_w1_w0 : ∀ n : Nat, w.heap.size < w1.heap.size + n := by intro n; omega
    have hv_w1_w0 : ∀ n : Nat, w.heap.size ≤ w1.heap.size + n := by intro n; omega
    go_wp2
    go_ret2
    refine ⟨by first | rfl | (simp), ?_⟩
    repeat' (first | (with_reducible exact Below.refl _ _) | (with_reducible assumption) | (with_reducible refine Below.alloc ?_ ?_ _) | (with_reducible refine Below.drew ?_) | (with_reducible refine bdrewN ?_ _) | (with_reducible refine Below.setCell ?_ ?_ _) | (with_reducible refine bthen ?_ (by assumption) ?_) | go_size)
theorem far_ok_all : (List.range 40).all (fun i => (farL (i + 1)).all (fun p => okF p.1 p.2)) = true := by decide +kernel
theorem far_ok {N : Int} (h1 : 1 ≤ N) (h2 : N ≤ 40) (p : Int × Int) (hp : p ∈ farL N) : okF p.1 p.2 = true := by
  have h := List.all_eq_true.1 far_ok_all (N - 1).toNat (List.mem_range.2 (by omega))
  have e : (((N - 1).toNat : Nat) : Int) + 1 = N := by omega
  rw [e] at h
  exact List.all_eq_true.1 h p hp
def touchM (N n d : Int) : List (Int × Int) × Int := if chkM N 40 n d = 0 then ((farL N).filter (fun p => nbF p.1 p.2 n d), 0) else ([], chkM N 40 n d)
def TouchR (w : World) (l : List (Int × Int)) (n d : Int) (k : Nat) (v i : Value) (wr : World) : Prop :=
  ∃ (j : Nat) (xs : List (Int × Int)), j ≤ l.length ∧ l.length ≤ j + k ∧ i = .int .i64 j ∧ xs = (l.take j).filter (fun p => nbF p.1 p.2 n d) ∧ wr.ownsRow w.heap.size 43 2 v xs.length (prs xs) ∧ Below w.heap.size w wr
theorem filter_len {α : Type} (p : α → Bool) (l : List α) (j : Nat) : ((l.take j).filter p).length ≤ l.length := Nat.le_trans (List.length_filter_le _ _) (by rw [List.length_take]; omega)
theorem filter_yes {α : Type} (p : α → Bool) (l : List α) (j : Nat) (y : α) (h : l[j]? = some y) (hp : p y = true) : (l.take (j + 1)).filter p = (l.take j).filter p ++ [y] := by
  rw [List.take_add_one, h, List.filter_append]; simp [hp]
theorem filter_no {α : Type} (p : α → Bool) (l : List α) (j : Nat) (y : α) (h : l[j]? = some y) (hp : p y = false) : (l.take (j + 1)).filter p = (l.take j).filter p := by
  rw [List.take_add_one, h, List.filter_append]; simp [hp]
theorem own_lit0 (w : World) (e : TypeId) (size : Nat) : (w.alloc (.cells #[] e)).ownsRow w.heap.size e size (.slice (some ⟨w.heap.size, 0, none⟩) 0 0) 0 [] :=
  World.ownsRow_lit (base := w.heap.size) (size := size) (e := e) w #[] 0 (Nat.le_refl _) (by simp [maxLen]) (by simp)
end Go.Proofs.YtlmmpeeacjbobaaDoor
