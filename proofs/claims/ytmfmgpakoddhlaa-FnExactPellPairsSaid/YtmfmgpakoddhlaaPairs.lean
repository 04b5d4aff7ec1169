/-
  Rows of Pell pairs, and the list of the least solutions as plain functions.
-/
import Derived.Test.YtmfmgpakoddhlaaLeast
import Derived.Test.YtmfmgpakoddhlaaRow
import Derived.Deep.AppendLies
namespace Go.Proofs.Ytmfmgpakoddhlaa
open Go.RowKit

def prs (xs : List (Int × Int)) : List Value := xs.flatMap fun p => [.int .i64 p.1, .int .i64 p.2]
theorem prs_len (xs : List (Int × Int)) : (prs xs).length = xs.length * 2 := by
  induction xs with
  | nil => rfl
  | cons x xs ih => simp only [prs, List.flatMap_cons, List.length_append, List.length_cons, List.length_nil] at ih ⊢; omega
theorem prs_get {xs : List (Int × Int)} {k : Nat} {z : Int × Int} (h : xs[k]? = some z) : (prs xs)[k * 2]? = some (.int .i64 z.1) ∧ (prs xs)[k * 2 + 1]? = some (.int .i64 z.2) := by
  induction xs generalizing k with
  | nil => simp at h
  | cons x xs ih =>
    cases k with
    | zero => simp at h; subst h; simp [prs]
    | succ k =>
      have h2 := ih (k := k) (by simpa using h)
      have e1 : (k + 1) * 2 = k * 2 + 2 := by omega
      rw [e1]
      simp only [prs, List.flatMap_cons] at h2 ⊢
      exact h2
theorem prs_snoc (xs : List (Int × Int)) (p : Int × Int) : prs (xs ++ [p]) = prs xs ++ [.int .i64 p.1, .int .i64 p.2] := by simp [prs]
theorem Try.infoP : (Try.prog.info? 31).map (fun i => (i.zero, i.size, i.bytes)) = some (some (.agg #[.int .i64 0, .int .i64 0]), 2, 16) := by kernel_rfl
set_option maxHeartbeats 1000000 in
theorem markPellPairS_any (base : Nat) (v : Value) (n : Nat) (k : Int) (xs : List Value) (w : World) (hv : w.ownsRow base 31 2 v n xs) (hn : n ≤ 1048576) (hk0 : 0 ≤ k) (hk1 : k ≤ 1000000000) :
    Calls Try.prog 7 #[v, .int .i64 k] w (MarkPost w base 31 2 v n k xs (k + (n : Int) * 2)) := by
  have hxs := hv.1
  rcases hv.2 with ⟨rfl, rfl⟩ | ⟨g, cap, cur, rfl, hb, hg, hnc, hcm, hcs, ht⟩
  · have hx : xs = [] := List.eq_nil_of_length_eq_zero (by simpa using hxs)
    subst hx
    go_enter Try.func7, Try.ntmps7
    go_wp2_with fail
    go_loopg [1, 5] 0 (fun _ x i wr => x = .int .i64 k ∧ i = .int .i64 0 ∧ wr = w)
    case atStart => exact ⟨rfl, rfl, rfl⟩
    case round =>
      obtain ⟨rfl, rfl, rfl⟩ := hrel
      go_wp2
      go_ret
      exact ⟨by simp, by simpa [mkd] using hv, World.grownBy.refl _ _⟩
  · clear hb hg hcs ht
    have HX := Lib.hid hxs
    clear hxs
    go_enter Try.func7, Try.ntmps7
    go_wp2_with fail
    go_loopg [1, 5] n (MarkR w base 31 2 (.slice (some ⟨g, 0, none⟩) n cap) n k xs (some g))
    case atStart => exact ⟨0, by omega, by omega, rfl, by simp, by rw [Nat.zero_mul, mkd_zero]; exact hv, World.grownBy.refl _ _⟩
    case round =>
      obtain ⟨j, hj1, hj2, rfl, rfl, hown, hgr⟩ := hrel
      clear hv
      rw [show ((2 : Nat) : Int) = 2 from rfl]
      by_cases hjn : j < n
      · have hjn' : (j : Int) < (n : Int) := by omega
        have hlen : (mkd k (j * 2) xs).length = n * 2 := by rw [mkd_len _ _ _ (by rw [HX.out]; omega), HX.out]
        obtain ⟨y, hy⟩ := get_ex (l := mkd k (j * 2) xs) (k := j * 2) (by omega)
        obtain ⟨z, hz⟩ := get_ex (l := mkd k (j * 2) xs) (k := j * 2 + 1) (by omega)
        have c1 : wr.cell? ⟨g, j * 2, none⟩ = some y := (hown.cellAt (j * 2) (by omega)).trans hy
        have c2 : wr.cell? ⟨g, j * 2 + 1, none⟩ = some z := (hown.cellAt (j * 2 + 1) (by omega)).trans hz
        have f1 : wr.frozen? ⟨g, j * 2, none⟩ = false := hown.frozenAt _
        have f2 : wr.frozen? ⟨g, j * 2 + 1, none⟩ = false := hown.frozenAt _
        obtain ⟨o1, g1⟩ := hown.stored (j * 2) (.int .i64 (k + ((j * 2 : Nat) : Int)))
        obtain ⟨o2, g2⟩ := o1.stored (j * 2 + 1) (.int .i64 (k + ((j * 2 + 1 : Nat) : Int)))
        rw [mkd_set _ _ _ (by rw [HX.out]; omega), mkd_set _ _ _ (by rw [HX.out]; omega)] at o2
        rw [show ((j * 2 : Nat) : Int) = (j : Int) * 2 by omega, show k + ((j * 2 + 1 : Nat) : Int) = k + (j : Int) * 2 + 1 by omega] at o2
        rw [show ((j * 2 : Nat) : Int) = (j : Int) * 2 by omega] at g1 g2
        rw [show k + ((j * 2 + 1 : Nat) : Int) = k + (j : Int) * 2 + 1 by omega] at g2
        have hgr2 := grown_trans (grown_trans hgr g1) g2
        have O2 := Lib.hid o2
        have G2 := Lib.hid hgr2
        clear hy hz hown o1 o2 g1 g2 hgr2 hlen
        go_wp2
        go_roundg (gk - 1)
        case measure => omega
        case rel =>
          refine ⟨j + 1, by omega, by omega, by go_num, ?_, ?_, G2.out⟩
          · rw [show k + ((j + 1 : Nat) : Int) * ((2 : Nat) : Int) = k + (j : Int) * 2 + 1 + 1 by omega]
          · rw [show (j + 1) * 2 = j * 2 + 1 + 1 by omega]; exact O2.out
      · obtain rfl : j = n := by omega
        go_wp2
        go_ret
        exact ⟨rfl, hown, hgr⟩
def HeldR2 (w : World) (n : Nat) (k0 : Int) (k : Nat) (x i : Value) (wr : World) : Prop :=
  ∃ j : Nat, j ≤ n ∧ n ≤ j + k ∧ i = .int .i64 j ∧ x = .int .i64 (k0 + (j : Int) * 2) ∧ Below w.heap.size w wr
set_option maxHeartbeats 1000000 in
theorem heldPellPairS_any (v : Value) (n : Nat) (k : Int) (xs : List Value) (w : World) (hv : Rd w 2 v n (mkd k (n * 2) xs)) (hn : n ≤ 1048576) (hk0 : 0 ≤ k) (hk1 : k ≤ 1000000000) :
    Calls Try.prog 8 #[v, .int .i64 k] w (Ret w (.int .i64 (k + (n : Int) * 2))) := by
  obtain ⟨A, c, rfl, hn1, hc1, _, hr1⟩ := hv
  have R1 := Lib.hid hr1
  clear hr1
  go_enter Try.func8, Try.ntmps8
  go_wp2_with fail
  go_loopg [1, 5] n (HeldR2 w n k)
  case atStart => exact ⟨0, by omega, by omega, rfl, by simp, Below.refl _ _⟩
  case round =>
    obtain ⟨j, hj1, hj2, rfl, rfl, hbw⟩ := hrel
    by_cases hjn : j < n
    · have hjn' : (j : Int) < (n : Int) := by omega
      rcases R1.out with h0 | ⟨g, o, rfl, hg, hcell⟩
      · omega
      have m1 := mkd_get k (n * 2) xs (j * 2) (by omega)
      have m2 := mkd_get k (n * 2) xs (j * 2 + 1) (by omega)
      rw [show ((j * 2 : Nat) : Int) = (j : Int) * 2 by omega] at m1
      rw [show k + ((j * 2 + 1 : Nat) : Int) = k + (j : Int) * 2 + 1 by omega] at m2
      have c1 : wr.cell? ⟨g, o + j * 2, none⟩ = some (.int .i64 (k + (j : Int) * 2)) := (hbw.cell (p := ⟨g, o + j * 2, none⟩) hg).trans (hcell (j * 2) _ m1)
      have c2 : wr.cell? ⟨g, o + j * 2 + 1, none⟩ = some (.int .i64 (k + (j : Int) * 2 + 1)) := (hbw.cell (p := ⟨g, o + j * 2 + 1, none⟩) hg).trans (hcell (j * 2 + 1) _ m2)
      clear m1 m2 hcell R1
      go_wp2
      go_roundg (gk - 1)
      case measure => omega
      case rel => exact ⟨j + 1, by omega, by omega, by go_num, by rw [show k + ((j + 1 : Nat) : Int) * 2 = k + (j : Int) * 2 + 1 + 1 by omega], hbw⟩
    · obtain rfl : j = n := by omega
      go_wp2
      go_ret
      refine ⟨by first | rfl | (simp), ?_⟩
      repeat' (first | (with_reducible exact Below.refl _ _) | (with_reducible assumption) | (with_reducible refine Below.alloc ?_ ?_ _) | (with_reducible refine Below.drew ?_) | (with_reducible refine bdrewN ?_ _) | (with_reducible refine Below.setCell ?_ ?_ _) | (with_reducible refine bthen ?_ (by assumption) ?_) | go_size)
def EqpR (w : World) (n : Nat) (k : Nat) (i : Value) (wr : World) : Prop :=
  ∃ j : Nat, j ≤ n ∧ n ≤ j + k ∧ i = .int .i64 j ∧ Below w.heap.size w wr
set_option maxHeartbeats 1000000 in
theorem eqPellPairS_same (v v' : Value) (n : Nat) (zs : List (Int × Int)) (w : World) (hv : Rd w 2 v n (prs zs)) (hv' : Rd w 2 v' n (prs zs)) :
    Calls Try.prog 6 #[v, v'] w (Ret w (.bool true)) := by
  obtain ⟨hl1, hm1⟩ := rd_len hv
  obtain ⟨A, c, rfl, hn1, hc1, _, hr1⟩ := hv
  obtain ⟨A', c', rfl, hn2, hc2, _, hr2⟩ := hv'
  rw [prs_len] at hl1
  have L1 := Lib.hid (show zs.length = n by omega)
  have R1 := Lib.hid hr1
  have R2 := Lib.hid hr2
  clear hl1 hr1 hr2
  go_enter Try.func6, Try.ntmps6
  go_wp2_with fail
  go_loopg [5] n (EqpR w n)
  case atStart => exact ⟨0, by omega, by omega, rfl, Below.refl _ _⟩
  case round =>
    obtain ⟨j, hj1, hj2, rfl, hbw⟩ := hrel
    by_cases hjn : j < n
    · obtain ⟨⟨y1, y2⟩, hy⟩ := get_ex (l := zs) (k := j) (by have := L1.out; omega)
      rcases R1.out with h0 | ⟨g, o, rfl, hg, hcell⟩
      · omega
      rcases R2.out with h0 | ⟨g', o', rfl, hg', hcell'⟩
      · omega
      obtain ⟨e1, e2⟩ := prs_get hy
      have c1 : wr.cell? ⟨g, o + j * 2, none⟩ = some (.int .i64 y1) := (hbw.cell (p := ⟨g, o + j * 2, none⟩) hg).trans (hcell (j * 2) _ e1)
      have c2 : wr.cell? ⟨g, o + j * 2 + 1, none⟩ = some (.int .i64 y2) := (hbw.cell (p := ⟨g, o + j * 2 + 1, none⟩) hg).trans (hcell (j * 2 + 1) _ e2)
      have c4 : wr.cell? ⟨g', o' + j * 2, none⟩ = some (.int .i64 y1) := (hbw.cell (p := ⟨g', o' + j * 2, none⟩) hg').trans (hcell' (j * 2) _ e1)
      have c5 : wr.cell? ⟨g', o' + j * 2 + 1, none⟩ = some (.int .i64 y2) := (hbw.cell (p := ⟨g', o' + j * 2 + 1, none⟩) hg').trans (hcell' (j * 2 + 1) _ e2)
      have hs := hbw.size
      have hgw : g < wr.heap.size := by omega
      have hgw' : g' < wr.heap.size := by omega
      have hjn' : (j : Int) < (n : Int) := by omega
      clear hy hcell hcell' R1 R2 e1 e2
      go_wp2_with fail
      refine wp_region_calm (by kernel_rfl) (by kernel_rfl) ?_
      repeat (go_big_quiet_step ((with_reducible exact calm (eqPell_same _ _ _))))
      refine wpQuiet_nil ?_
      intro w1 hb_w1
      obtain ⟨hc_w1, hf_w1, hs_w1⟩ := bcell hb_w1
      try simp at hs_w1
      go_wp2
      go_roundg (gk - 1)
      case measure => omega
      case rel => exact ⟨j + 1, by omega, by omega, by go_num, bthen hbw hb_w1 hbw.size⟩
    · go_wp2
      go_ret
      refine ⟨by first | rfl | (simp), ?_⟩
      repeat' (first | (with_reducible exact Below.refl _ _) | (with_reducible assumption) | (with_reducible refine Below.alloc ?_ ?_ _) | (with_reducible refine Below.drew ?_) | (with_reducible refine bdrewN ?_ _) | (with_reducible refine Below.setCell ?_ ?_ _) | (with_reducible refine bthen ?_ (by assumption) ?_) | go_size)
/-- The k-th solution, and whether all up to it are plain. -/
def ppS (d X Y : Int) (b : Bool) : Nat → (Int × Int) × Bool
  | 0 => ((X, Y), b)
  | k + 1 => ((mxP d (ppS d X Y b k).1.1 (ppS d X Y b k).1.2 X Y, myP (ppS d X Y b k).1.1 (ppS d X Y b k).1.2 X Y), (ppS d X Y b k).2 && (fitP d (ppS d X Y b k).1.2 Y && okP d (mxP d (ppS d X Y b k).1.1 (ppS d X Y b k).1.2 X Y) (myP (ppS d X Y b k).1.1 (ppS d X Y b k).1.2 X Y)))
theorem ls_ok {d : Int} {l : Nat} (h : lsB d l = true) : okP d (lsX d l) (lsY d l) = true := by
  unfold lsB at h
  unfold lsX lsY
  rw [Bool.and_eq_true] at h
  by_cases ho : l % 2 = 1
  · rw [if_pos ho] at h ⊢
    rw [if_pos ho]
    exact (Bool.and_eq_true_iff.1 h.2).2
  · rw [if_neg ho, if_neg ho]
    exact h.1
theorem pp_ok {d X Y : Int} {b : Bool} (h0 : b = true → okP d X Y = true) : ∀ k, (ppS d X Y b k).2 = true → okP d (ppS d X Y b k).1.1 (ppS d X Y b k).1.2 = true
  | 0, h => h0 h
  | k + 1, h => by
    have h : ((ppS d X Y b k).2 && (fitP d (ppS d X Y b k).1.2 Y && okP d (mxP d (ppS d X Y b k).1.1 (ppS d X Y b k).1.2 X Y) (myP (ppS d X Y b k).1.1 (ppS d X Y b k).1.2 X Y))) = true := h
    rw [Bool.and_eq_true, Bool.and_eq_true] at h
    exact h.2.2
theorem pp_stop {d X Y : Int} {b : Bool} {k : Nat} (h : (ppS d X Y b k).2 = false) : ∀ m, k ≤ m → (ppS d X Y b m).2 = false
  | 0, hm => by obtain rfl : k = 0 := by omega
                exact h
  | m + 1, hm => by
    rcases Nat.lt_or_ge m k with g | g
    · obtain rfl : k = m + 1 := by omega
      exact h
    · show ((ppS d X Y b m).2 && _) = false
      rw [pp_stop h m g, Bool.false_and]
def ppL (d X Y : Int) (b : Bool) (n : Nat) : List (Int × Int) := (List.range n).map fun k => (ppS d X Y b k).1
theorem ppL_succ (d X Y : Int) (b : Bool) (n : Nat) : ppL d X Y b (n + 1) = ppL d X Y b n ++ [(ppS d X Y b n).1] := by simp [ppL, List.range_succ]
theorem ppL_len (d X Y : Int) (b : Bool) (n : Nat) : (ppL d X Y b n).length = n := by simp [ppL]
/-- All of the first n are plain. -/
def ppB (d X Y : Int) (b : Bool) : Nat → Bool
  | 0 => true
  | n + 1 => (ppS d X Y b n).2
def ppM (d n : Int) : List (Int × Int) × Int :=
  if pdM d = 0 then (if inB n 0 50 then (if ppB d (lsX d (perN d)) (lsY d (perN d)) (lsB d (perN d)) n.toNat then (ppL d (lsX d (perN d)) (lsY d (perN d)) (lsB d (perN d)) n.toNat, 0) else ([], 5)) else ([], 2)) else ([], pdM d)
def PpP (w : World) (M : List (Int × Int) × Int) (e : Ending) (w' : World) : Prop :=
  ∃ v, e = .returned (.tuple #[v, .int .i64 M.2]) ∧ w'.ownsRow w.heap.size 31 2 v M.1.length (prs M.1) ∧ Below w.heap.size w w'
theorem pp_small (d n : Int) : (ppM d n).1.length ≤ 400 := by
  unfold ppM
  split
  · split
    · rename_i h
      obtain ⟨a, b⟩ := inB_iff.1 h
      split
      · simp only [ppL_len]; omega
      · simp
    · simp
  · simp
end Go.Proofs.Ytmfmgpakoddhlaa
