/-
  The laws' own equality of rows of fractions.
-/
import Derived.Test.YtlmmpeeacjbobaaFr
namespace Go.Proofs.Ytlmmpeeacjbobaa
open Go.RowKit

theorem run_neF (a b d e : Int) (r : Bool) (hr : (!(a == d && b == e)) = r) (w : World) : (binOp .neq 24 (.agg #[.int .i64 a, .int .i64 b]) (.agg #[.int .i64 d, .int .i64 e])).run Try.prog w = .ok (.bool r) w := by
  rw [run_neq_struct, run_equalIn_struct (P := Try.prog) w 9999 24 _ _ Try.fieldsF Try.heldF]
  obtain ⟨f1, f2, hl, n1, n2, t1, t2, o1, o2⟩ := fields2 Try.listF
  subst hr
  rw [hl, run_eqFields2 Try.underlying2 Try.plainI (by rw [n1]; decide) (by rw [n2]; decide) t1 t2 o1 o2 9998]
  rfl
def F6fR (w : World) (n : Nat) (k : Nat) (i : Value) (wr : World) : Prop :=
  ∃ j : Nat, j ≤ n ∧ n ≤ j + k ∧ i = .int .i64 j ∧ Below w.heap.size w wr
set_option maxHeartbeats 1000000 in
theorem f6fractions_same (v v' : Value) (n : Nat) (xs : List (Int × Int)) (w : World) (hv : Rd w 2 v n (prs xs)) (hv' : Rd w 2 v' n (prs xs)) :
    Calls Try.prog 57 #[v, v'] w (Ret w (.bool true)) := by
  obtain ⟨hl1, hm1⟩ := rd_len hv
  obtain ⟨A, c, rfl, hn1, hc1, _, hr1⟩ := hv
  obtain ⟨A', c', rfl, hn2, hc2, _, hr2⟩ := hv'
  rw [prs_len] at hl1
  have L1 := Lib.hid (show xs.length = n by omega)
  have R1 := Lib.hid hr1
  have R2 := Lib.hid hr2
  clear hl1 hr1 hr2
  go_enter Try.func57, Try.ntmps57
  go_wp2_with fail
  go_loopg [5] n (F6fR w n)
  case atStart => exact ⟨0, by omega, by omega, rfl, Below.refl _ _⟩
  case round =>
    obtain ⟨j, hj1, hj2, rfl, hbw⟩ := hrel
    have hs := hbw.size
    by_cases hjn : j < n
    · obtain ⟨⟨y1, y2⟩, hy⟩ := get_ex (l := xs) (k := j) (by have := L1.out; omega)
      obtain ⟨i1, i2⟩ := prs_get hy
      simp only at i1 i2
      rcases R1.out with h0 | ⟨g, o, rfl, hg, hcell⟩
      · omega
      rcases R2.out with h0 | ⟨g', o', rfl, hg', hcell'⟩
      · omega
      have c1 : wr.cell? ⟨g, o + j * 2, none⟩ = some (.int .i64 y1) := (hbw.cell (p := ⟨g, o + j * 2, none⟩) hg).trans (hcell (j * 2) _ i1)
      have c2 : wr.cell? ⟨g, o + j * 2 + 1, none⟩ = some (.int .i64 y2) := (hbw.cell (p := ⟨g, o + j * 2 + 1, none⟩) hg).trans (hcell (j * 2 + 1) _ i2)
      have c3 : wr.cell? ⟨g', o' + j * 2, none⟩ = some (.int .i64 y1) := (hbw.cell (p := ⟨g', o' + j * 2, none⟩) hg').trans (hcell' (j * 2) _ i1)
      have c4 : wr.cell? ⟨g', o' + j * 2 + 1, none⟩ = some (.int .i64 y2) := (hbw.cell (p := ⟨g', o' + j * 2 + 1, none⟩) hg').trans (hcell' (j * 2 + 1) _ i2)
      have hgw : g < wr.heap.size := by omega
      have hgw' : g' < wr.heap.size := by omega
      have hjn' : (j : Int) < (n : Int) := by omega
      have kNe := run_neF y1 y2 y1 y2 false (by simp)
      have kGd := run_guardF .neq
      clear hy i1 i2 hcell hcell' R1 R2
      go_wp2_with fail
      refine wp_region_calm (by kernel_rfl) (by kernel_rfl) ?_
      repeat (go_big_quiet_step ((fail)))
      refine wpQuiet_nil ?_
      intro w1 hb_w1
      obtain ⟨hc_w1, hf_w1, hs_w1⟩ := bcell hb_w1
      try simp at hs_w1
      have belz := bthen hbw hb_w1 hs
      go_wp2
      go_roundg (gk - 1)
      case measure => omega
      case rel => exact ⟨j + 1, by omega, by omega, by go_num, belz⟩
    · obtain rfl : j = n := by omega
      go_wp2
      go_ret
      refine ⟨by first | rfl | (simp), ?_⟩
      repeat' (first | (with_reducible exact Below.refl _ _) | (with_reducible assumption) | (with_reducible refine Below.alloc ?_ ?_ _) | (with_reducible refine Below.drew ?_) | (with_reducible refine bdrewN ?_ _) | (with_reducible refine Below.setCell ?_ ?_ _) | (with_reducible refine bthen ?_ (by assumption) ?_) | go_size)
end Go.Proofs.Ytlmmpeeacjbobaa
