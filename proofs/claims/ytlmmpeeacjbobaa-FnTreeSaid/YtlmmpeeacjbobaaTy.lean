/-
  The laws' own equality of rows of numbers; what the law of the tree asks, as plain facts.
-/
import Derived.Test.YtlmmpeeacjbobaaTz
import Derived.Test.YtlmmpeeacjbobaaF6f
namespace Go.Proofs.Ytlmmpeeacjbobaa
open Go.RowKit

def F6iR (w : World) (n : Nat) (k : Nat) (i : Value) (wr : World) : Prop :=
  ∃ j : Nat, j ≤ n ∧ n ≤ j + k ∧ i = .int .i64 j ∧ Below w.heap.size w wr
set_option maxHeartbeats 1000000 in
theorem f6ints_same (v v' : Value) (n : Nat) (xs : List Int) (w : World) (hv : Rd w 1 v n (ints xs)) (hv' : Rd w 1 v' n (ints xs)) :
    Calls Try.prog 26 #[v, v'] w (Ret w (.bool true)) := by
  obtain ⟨hl1, hm1⟩ := rd_len hv
  obtain ⟨A, c, rfl, hn1, hc1, _, hr1⟩ := hv
  obtain ⟨A', c', rfl, hn2, hc2, _, hr2⟩ := hv'
  rw [ints_len, Nat.mul_one] at hl1
  have L1 := Lib.hid hl1
  have R1 := Lib.hid hr1
  have R2 := Lib.hid hr2
  clear hl1 hr1 hr2
  go_enter Try.func26, Try.ntmps26
  go_wp2_with fail
  go_loopg [5] n (F6iR w n)
  case atStart => exact ⟨0, by omega, by omega, rfl, Below.refl _ _⟩
  case round =>
    obtain ⟨j, hj1, hj2, rfl, hbw⟩ := hrel
    have hs := hbw.size
    by_cases hjn : j < n
    · obtain ⟨y, hy⟩ := get_ex (l := xs) (k := j) (by have := L1.out; omega)
      rcases R1.out with h0 | ⟨g, o, rfl, hg, hcell⟩
      · omega
      rcases R2.out with h0 | ⟨g', o', rfl, hg', hcell'⟩
      · omega
      have c1 : wr.cell? ⟨g, o + j, none⟩ = some (.int .i64 y) := (hbw.cell (p := ⟨g, o + j, none⟩) hg).trans (hcell j _ (ints_get hy))
      have c2 : wr.cell? ⟨g', o' + j, none⟩ = some (.int .i64 y) := (hbw.cell (p := ⟨g', o' + j, none⟩) hg').trans (hcell' j _ (ints_get hy))
      have hgw : g < wr.heap.size := by omega
      have hgw' : g' < wr.heap.size := by omega
      have hjn' : (j : Int) < (n : Int) := by omega
      clear hy hcell hcell' R1 R2
      go_wp2_with fail
      refine wp_region_calm (by kernel_rfl) (by kernel_rfl) ?_
      repeat (go_big_quiet_step ((fail)))
      refine wpQuiet_nil ?_
      intro w1 hb_w1
      obtain ⟨hc_w1, hf_w1, hs_w1⟩ := bcell hb_w1
      try simp at hs_w1
      have belz := bthen hbw hb_w1 hs
      go_wp2
      go_roundg (gk - 1)
      case measure => omega
      case rel => exact ⟨j + 1, by omega, by omega, by go_num, belz⟩
    · obtain rfl : j = n := by omega
      go_wp2
      go_ret
      refine ⟨by first | rfl | (simp), ?_⟩
      repeat' (first | (with_reducible exact Below.refl _ _) | (with_reducible assumption) | (with_reducible refine Below.alloc ?_ ?_ _) | (with_reducible refine Below.drew ?_) | (with_reducible refine bdrewN ?_ _) | (with_reducible refine Below.setCell ?_ ?_ _) | (with_reducible refine bthen ?_ (by assumption) ?_) | go_size)
theorem fp_law {s : List Int} (h : (fpM s).2.2 = 0) : posC (fpM s).1 (fpM s).2.1 = 0 ∧ ptP (fpM s).1 (fpM s).2.1 = s := by
  cases hk : okR s
  · unfold fpM at h; rw [hk] at h; simp at h
  · cases hf : faB s
    · unfold fpM at h; rw [hk, hf] at h; simp at h
    · have e : fpM s = ((faM s).1, (faM s).2, 0) := by unfold fpM; rw [hk, hf]; rfl
      rw [e]
      exact fp_path hk hf
theorem ch_law {n d : Int} (h : (chM n d).2.2 = 0) : paM (chM n d).1.1 (chM n d).1.2 = (n, d, 0) ∧ paM (chM n d).2.1.1 (chM n d).2.1.2 = (n, d, 0) := by
  by_cases hp : posC n d = 0
  · obtain ⟨_, k1, k2, _, _⟩ := child_bn hp
    cases h1 : okF (n + (bnP (ptP n d)).1) (d + (bnP (ptP n d)).2)
    · unfold chM at h; rw [if_pos hp, h1] at h; simp at h
    · cases h2 : okF (n + (bnR (ptP n d)).1) (d + (bnR (ptP n d)).2)
      · unfold chM at h; rw [if_pos hp, h1, h2] at h; simp at h
      · have e : chM n d = ((n + (bnP (ptP n d)).1, d + (bnP (ptP n d)).2), (n + (bnR (ptP n d)).1, d + (bnR (ptP n d)).2), 0) := by unfold chM; rw [if_pos hp, h1, h2]; rfl
        rw [e]
        exact ⟨k1 h1, k2 h2⟩
  · unfold chM at h; rw [if_neg hp] at h; exact absurd h hp
theorem back_law {n d : Int} (h : posC n d = 0) : fpM (ptP n d) = (n, d, 0) := by
  obtain ⟨h1, h2, h3⟩ := path_back h
  unfold fpM
  rw [if_pos h1, if_pos h2, h3]
theorem sum_bd (n d : Int) : 0 ≤ (ptP n d).sum ∧ (ptP n d).sum ≤ 60000000000 := by
  obtain ⟨h1, h2⟩ := pt_bd (n := n) (d := d)
  have h := sumN_bd h1 (ptP n d).length
  have e : sumN (ptP n d) (ptP n d).length = (ptP n d).sum := by unfold sumN; rw [List.take_of_length_le (Nat.le_refl _)]
  rw [e] at h
  omega
end Go.Proofs.Ytlmmpeeacjbobaa
