/-
  Rows of surds: the laws' own equality.
-/
import Derived.Test.YtemencapmmaljaaWk3
namespace Go.Proofs.Ytemencapmmaljaa
open Go.RowKit

def EqsR (w : World) (n : Nat) (k : Nat) (i : Value) (wr : World) : Prop :=
  ∃ j : Nat, j ≤ n ∧ n ≤ j + k ∧ i = .int .i64 j ∧ Below w.heap.size w wr
set_option maxHeartbeats 1000000 in
theorem eqSurdS_same (v v' : Value) (n : Nat) (d : Int) (zs : List (Int × Int)) (w : World) (hv : Rd w 3 v n (srd d zs)) (hv' : Rd w 3 v' n (srd d zs)) :
    Calls Try.prog 41 #[v, v'] w (Ret w (.bool true)) := by
  obtain ⟨hl1, hm1⟩ := rd_len hv
  obtain ⟨A, c, rfl, hn1, hc1, _, hr1⟩ := hv
  obtain ⟨A', c', rfl, hn2, hc2, _, hr2⟩ := hv'
  rw [srd_len] at hl1
  have L1 := Lib.hid (show zs.length = n by omega)
  have R1 := Lib.hid hr1
  have R2 := Lib.hid hr2
  clear hl1 hr1 hr2
  go_enter Try.func41, Try.ntmps41
  go_wp2_with fail
  go_loopg [5] n (EqsR w n)
  case atStart => exact ⟨0, by omega, by omega, rfl, Below.refl _ _⟩
  case round =>
    obtain ⟨j, hj1, hj2, rfl, hbw⟩ := hrel
    by_cases hjn : j < n
    · obtain ⟨⟨y1, y2⟩, hy⟩ := get_ex (l := zs) (k := j) (by have := L1.out; omega)
      rcases R1.out with h0 | ⟨g, o, rfl, hg, hcell⟩
      · omega
      rcases R2.out with h0 | ⟨g', o', rfl, hg', hcell'⟩
      · omega
      obtain ⟨e1, e2, e3⟩ := srd_get (d := d) hy
      have c1 : wr.cell? ⟨g, o + j * 3, none⟩ = some (.int .i64 y1) := (hbw.cell (p := ⟨g, o + j * 3, none⟩) hg).trans (hcell (j * 3) _ e1)
      have c2 : wr.cell? ⟨g, o + j * 3 + 1, none⟩ = some (.int .i64 d) := (hbw.cell (p := ⟨g, o + j * 3 + 1, none⟩) hg).trans (hcell (j * 3 + 1) _ e2)
      have c3 : wr.cell? ⟨g, o + j * 3 + 2, none⟩ = some (.int .i64 y2) := (hbw.cell (p := ⟨g, o + j * 3 + 2, none⟩) hg).trans (hcell (j * 3 + 2) _ e3)
      have c4 : wr.cell? ⟨g', o' + j * 3, none⟩ = some (.int .i64 y1) := (hbw.cell (p := ⟨g', o' + j * 3, none⟩) hg').trans (hcell' (j * 3) _ e1)
      have c5 : wr.cell? ⟨g', o' + j * 3 + 1, none⟩ = some (.int .i64 d) := (hbw.cell (p := ⟨g', o' + j * 3 + 1, none⟩) hg').trans (hcell' (j * 3 + 1) _ e2)
      have c6 : wr.cell? ⟨g', o' + j * 3 + 2, none⟩ = some (.int .i64 y2) := (hbw.cell (p := ⟨g', o' + j * 3 + 2, none⟩) hg').trans (hcell' (j * 3 + 2) _ e3)
      have hs := hbw.size
      have hgw : g < wr.heap.size := by omega
      have hgw' : g' < wr.heap.size := by omega
      have hjn' : (j : Int) < (n : Int) := by omega
      clear hy hcell hcell' R1 R2 e1 e2 e3
      go_wp2_with fail
      refine wp_region_calm (by kernel_rfl) (by kernel_rfl) ?_
      repeat (go_big_quiet_step ((with_reducible exact calm (eqSurd_same _ _ _ _))))
      refine wpQuiet_nil ?_
      intro w1 hb_w1
      obtain ⟨hc_w1, hf_w1, hs_w1⟩ := bcell hb_w1
      try simp at hs_w1
      go_wp2
      go_roundg (gk - 1)
      case measure => omega
      case rel => exact ⟨j + 1, by omega, by omega, by go_num, bthen hbw hb_w1 hbw.size⟩
    · go_wp2
      go_ret
      refine ⟨by first | rfl | (simp), ?_⟩
      repeat' (first | (with_reducible exact Below.refl _ _) | (with_reducible assumption) | (with_reducible refine Below.alloc ?_ ?_ _) | (with_reducible refine Below.drew ?_) | (with_reducible refine bdrewN ?_ _) | (with_reducible refine Below.setCell ?_ ?_ _) | (with_reducible refine bthen ?_ (by assumption) ?_) | go_size)
end Go.Proofs.Ytemencapmmaljaa
