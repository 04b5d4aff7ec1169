/-
  Rows of texts: the laws' own equality, marks, and marks that are held.
-/
import Derived.Test.YtlmmpeeacjbobaaDoorMk
namespace Go.Proofs.YtlmmpeeacjbobaaDoor
open Go.RowKit

def mks (k : Nat) (t : Nat) (xs : List Value) : List Value := (List.range t).map (fun i : Nat => Value.string (mtB (k + i))) ++ xs.drop t
theorem mks_zero (k : Nat) (xs : List Value) : mks k 0 xs = xs := by simp [mks]
theorem mks_len (k : Nat) (t : Nat) (xs : List Value) (h : t ≤ xs.length) : (mks k t xs).length = xs.length := by
  simp only [mks, List.length_append, List.length_map, List.length_range, List.length_drop]; omega
theorem mks_set (k : Nat) (t : Nat) (xs : List Value) (h : t < xs.length) : (mks k t xs).set t (.string (mtB (k + t))) = mks k (t + 1) xs := by
  unfold mks
  rw [List.set_append_right _ _ (by simp), List.range_succ, List.map_append]
  simp only [List.length_map, List.length_range, Nat.sub_self]
  rw [List.drop_eq_getElem_cons h, List.set_cons_zero]
  simp
theorem mks_get (k : Nat) (t : Nat) (xs : List Value) (i : Nat) (h : i < t) : (mks k t xs)[i]? = some (.string (mtB (k + i))) := by
  unfold mks
  rw [List.getElem?_append_left (by simpa using h), List.getElem?_map, List.getElem?_range h]
  rfl
theorem below_grown' {w w' : World} (h : Below w.heap.size w w') (row : Option Nat) : w.grownBy w' row := ⟨h.os, h.tape, h.output, h.size, fun b hb _ => h.block b hb⟩
def MksR (w : World) (base : Nat) (v : Value) (n : Nat) (k0 : Nat) (xs : List Value) (row : Option Nat) (k : Nat) (x i : Value) (wr : World) : Prop :=
  ∃ j : Nat, j ≤ n ∧ n ≤ j + k ∧ i = .int .i64 j ∧ x = .int .i64 ((k0 + j : Nat) : Int) ∧ wr.ownsRow base 9 1 v n (mks k0 j xs) ∧ w.grownBy wr row
set_option maxHeartbeats 1000000 in
set_option maxRecDepth 100000 in
theorem markStringS_any (base : Nat) (v : Value) (n : Nat) (k : Nat) (xs : List Value) (w : World) (hv : w.ownsRow base 9 1 v n xs) (hn : n ≤ 100) (hk0 : 1 ≤ k) (hk1 : k ≤ 800) :
    Calls Tryd.prog 14 #[v, .int .i64 k] w (fun e w' => e = .returned (.int .i64 ((k + n : Nat) : Int)) ∧ w'.ownsRow base 9 1 v n (mks k n xs) ∧ w.grownBy w' v.ownBlock) := by
  have hxs := hv.1
  rcases hv.2 with ⟨rfl, rfl⟩ | ⟨g, cap, cur, rfl, hb, hg, hnc, hcm, hcs, ht⟩
  · have hx : xs = [] := List.eq_nil_of_length_eq_zero (by simpa using hxs)
    subst hx
    go_enter Tryd.func14, Tryd.ntmps14
    go_wp2_with fail
    go_loopg [1, 5] 0 (fun _ x i wr => x = .int .i64 k ∧ i = .int .i64 0 ∧ wr = w)
    case atStart => exact ⟨rfl, rfl, rfl⟩
    case round =>
      obtain ⟨rfl, rfl, rfl⟩ := hrel
      go_wp2
      go_ret
      exact ⟨by simp, by simpa [mks] using hv, World.grownBy.refl _ _⟩
  · have hgl : g < w.heap.size := (Array.getElem?_eq_some_iff.1 hg).1
    clear hb hg hcs ht
    have HX := Lib.hid hxs
    clear hxs
    go_enter Tryd.func14, Tryd.ntmps14
    go_wp2_with fail
    go_loopg [1, 5] n (MksR w base (.slice (some ⟨g, 0, none⟩) n cap) n k xs (some g))
    case atStart => exact ⟨0, by omega, by omega, rfl, by simp, by rw [mks_zero]; exact hv, World.grownBy.refl _ _⟩
    case round =>
      obtain ⟨j, hj1, hj2, rfl, rfl, hown, hgr⟩ := hrel
      clear hv
      have hs := hgr.size
      by_cases hjn : j < n
      · have hjn' : (j : Int) < (n : Int) := by omega
        have kM := fun w => markText_any (k + j) (by omega) (by omega) w
        rw [Int.natCast_add] at kM
        have HM0 := mtB_size (k + j)
        have hset := mks_set k j xs (by rw [HX.out]; omega)
        have hlen : (mks k j xs).length = n := by rw [mks_len _ _ _ (by rw [HX.out]; omega), HX.out, Nat.mul_one]
        generalize mtB (k + j) = T at *
        go_wp2_with fail
        apply Calls.mono
        · with_reducible exact kM _
        rintro _ w4 ⟨rfl, hb_w4⟩
        have hown4 := own_below hown hb_w4 (Nat.le_refl _)
        have hgr4 := grown_trans hgr (below_grown' hb_w4 (some g))
        have hs4 := hb_w4.size
        obtain ⟨y, hy⟩ := get_ex (l := mks k j xs) (k := j) (by omega)
        have c1 : w4.cell? ⟨g, j, none⟩ = some y := (hown4.cellAt j (by omega)).trans hy
        have f1 : w4.frozen? ⟨g, j, none⟩ = false := hown4.frozenAt _
        have hgw : g < w4.heap.size := by omega
        obtain ⟨o1, g1⟩ := hown4.stored j (.string T)
        rw [hset] at o1
        have hgr2 := grown_trans hgr4 g1
        have O2 := Lib.hid o1
        have G2 := Lib.hid hgr2
        clear hy hown hown4 o1 g1 hgr2 hgr hgr4 hlen hset hb_w4 kM
        go_wp2
        go_roundg (gk - 1)
        case measure => omega
        case rel =>
          refine ⟨j + 1, by omega, by omega, by go_num, ?_, O2.out, G2.out⟩
          rw [show ((k + (j + 1) : Nat) : Int) = (k : Int) + (j : Int) + 1 by omega]
      · obtain rfl : j = n := by omega
        go_wp2
        go_ret
        exact ⟨by simp, hown, hgr⟩
def HdsR (w : World) (n : Nat) (k0 : Nat) (k : Nat) (x i : Value) (wr : World) : Prop :=
  ∃ j : Nat, j ≤ n ∧ n ≤ j + k ∧ i = .int .i64 j ∧ x = .int .i64 ((k0 + j : Nat) : Int) ∧ Below w.heap.size w wr
set_option maxHeartbeats 1000000 in
set_option maxRecDepth 100000 in
theorem heldStringS_any (v : Value) (n : Nat) (k : Nat) (xs : List Value) (w : World) (hv : Rd w 1 v n (mks k n xs)) (hn : n ≤ 100) (hk0 : 1 ≤ k) (hk1 : k ≤ 800) :
    Calls Tryd.prog 15 #[v, .int .i64 k] w (Ret w (.int .i64 ((k + n : Nat) : Int))) := by
  obtain ⟨A, c, rfl, hn1, hc1, _, hr1⟩ := hv
  have R1 := Lib.hid hr1
  clear hr1
  go_enter Tryd.func15, Tryd.ntmps15
  go_wp2_with fail
  go_loopg [1, 5] n (HdsR w n k)
  case atStart => exact ⟨0, by omega, by omega, rfl, by simp, Below.refl _ _⟩
  case round =>
    obtain ⟨j, hj1, hj2, rfl, rfl, hbw⟩ := hrel
    have hs := hbw.size
    by_cases hjn : j < n
    · have hjn' : (j : Int) < (n : Int) := by omega
      rcases R1.out with h0 | ⟨g, o, rfl, hg, hcell⟩
      · omega
      have m1 := mks_get k n xs j hjn
      have c1 : wr.cell? ⟨g, o + j, none⟩ = some (.string (mtB (k + j))) := (hbw.cell (p := ⟨g, o + j, none⟩) hg).trans (hcell j _ m1)
      have hgw : g < wr.heap.size := by omega
      have kM := fun w => markText_any (k + j) (by omega) (by omega) w
      rw [Int.natCast_add] at kM
      generalize mtB (k + j) = T at *
      clear m1 hcell R1
      go_wp2_with fail
      refine wp_region_calm (by kernel_rfl) (by kernel_rfl) ?_
      repeat (go_big_quiet_step ((first | with_reducible exact calm (kM _))))
      refine wpQuiet_nil ?_
      intro w1 hb_w1
      obtain ⟨hc_w1, hf_w1, hs_w1⟩ := bcell hb_w1
      try simp at hs_w1
      have belz := bthen hbw hb_w1 hs
      go_wp2
      go_roundg (gk - 1)
      case measure => omega
      case rel => exact ⟨j + 1, by omega, by omega, by go_num, by rw [show ((k + (j + 1) : Nat) : Int) = (k : Int) + (j : Int) + 1 by omega], belz⟩
    · obtain rfl : j = n := by omega
      go_wp2
      go_ret
      refine ⟨by first | rfl | (simp), ?_⟩
      repeat' (first | (with_reducible exact Below.refl _ _) | (with_reducible assumption) | (with_reducible refine Below.alloc ?_ ?_ _) | (with_reducible refine Below.drew ?_) | (with_reducible refine bdrewN ?_ _) | (with_reducible refine Below.setCell ?_ ?_ _) | (with_reducible refine bthen ?_ (by assumption) ?_) | go_size)
def EqsR (w : World) (n : Nat) (k : Nat) (i : Value) (wr : World) : Prop :=
  ∃ j : Nat, j ≤ n ∧ n ≤ j + k ∧ i = .int .i64 j ∧ Below w.heap.size w wr
set_option maxHeartbeats 1000000 in
theorem eqStringS_same (v v' : Value) (n : Nat) (xs : List ByteArray) (w : World) (hv : Rd w 1 v n (strs xs)) (hv' : Rd w 1 v' n (strs xs)) :
    Calls Tryd.prog 13 #[v, v'] w (Ret w (.bool true)) := by
  obtain ⟨hl1, hm1⟩ := rd_len hv
  obtain ⟨A, c, rfl, hn1, hc1, _, hr1⟩ := hv
  obtain ⟨A', c', rfl, hn2, hc2, _, hr2⟩ := hv'
  rw [strs_len, Nat.mul_one] at hl1
  have L1 := Lib.hid hl1
  have R1 := Lib.hid hr1
  have R2 := Lib.hid hr2
  clear hl1 hr1 hr2
  go_enter Tryd.func13, Tryd.ntmps13
  go_wp2_with fail
  go_loopg [5] n (EqsR w n)
  case atStart => exact ⟨0, by omega, by omega, rfl, Below.refl _ _⟩
  case round =>
    obtain ⟨j, hj1, hj2, rfl, hbw⟩ := hrel
    have hs := hbw.size
    by_cases hjn : j < n
    · obtain ⟨y, hy⟩ := get_ex (l := xs) (k := j) (by have := L1.out; omega)
      have hy' : (strs xs)[j]? = some (.string y) := by simp [strs, hy]
      rcases R1.out with h0 | ⟨g, o, rfl, hg, hcell⟩
      · omega
      rcases R2.out with h0 | ⟨g', o', rfl, hg', hcell'⟩
      · omega
      have c1 : wr.cell? ⟨g, o + j, none⟩ = some (.string y) := (hbw.cell (p := ⟨g, o + j, none⟩) hg).trans (hcell j _ hy')
      have c2 : wr.cell? ⟨g', o' + j, none⟩ = some (.string y) := (hbw.cell (p := ⟨g', o' + j, none⟩) hg').trans (hcell' j _ hy')
      have hgw : g < wr.heap.size := by omega
      have hgw' : g' < wr.heap.size := by omega
      have hjn' : (j : Int) < (n : Int) := by omega
      clear hy hy' hcell hcell' R1 R2
      go_wp2_with fail
      refine wp_region_calm (by kernel_rfl) (by kernel_rfl) ?_
      repeat (go_big_quiet_step ((fail)))
      refine wpQuiet_nil ?_
      intro w1 hb_w1
      obtain ⟨hc_w1, hf_w1, hs_w1⟩ := bcell hb_w1
      try simp at hs_w1
      have belz := bthen hbw hb_w1 hs
      go_wp2
      go_roundg (gk - 1)
      case measure => omega
      case rel => exact ⟨j + 1, by omega, by omega, by go_num, belz⟩
    · obtain rfl : j = n := by omega
      go_wp2
      go_ret
      refine ⟨by first | rfl | (simp), ?_⟩
      repeat' (first | (with_reducible exact Below.refl _ _) | (with_reducible assumption) | (with_reducible refine Below.alloc ?_ ?_ _) | (with_reducible refine Below.drew ?_) | (with_reducible refine bdrewN ?_ _) | (with_reducible refine Below.setCell ?_ ?_ _) | (with_reducible refine bthen ?_ (by assumption) ?_) | go_size)
end Go.Proofs.YtlmmpeeacjbobaaDoor
