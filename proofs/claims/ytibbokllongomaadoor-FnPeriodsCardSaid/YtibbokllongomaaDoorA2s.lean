/-
  The laws' own equality of rows of numbers.
-/
import Derived.Test.YtibbokllongomaaDoorInts
namespace Go.Proofs.YtibbokllongomaaDoor
open Go.RowKit

def A2sR (w : World) (n : Nat) (ys zs : List Int) (k : Nat) (i : Value) (wr : World) : Prop :=
  ∃ j : Nat, j ≤ n ∧ n ≤ j + k ∧ i = .int .i64 j ∧ (∀ t, t < j → ys[t]? = zs[t]?) ∧ Below w.heap.size w wr
set_option maxHeartbeats 1000000 in
theorem a2Same_any (v v' : Value) (n n' : Nat) (ys zs : List Int) (w : World) (hv : Rd w 1 v n (ints ys)) (hv' : Rd w 1 v' n' (ints zs)) (r : Bool) (hr : (ys == zs) = r) :
    Calls Tryd.prog 14 #[v, v'] w (Ret w (.bool r)) := by
  have HR := Lib.hid hr
  clear hr
  obtain ⟨hl1, hm1⟩ := rd_len hv
  obtain ⟨hl2, hm2⟩ := rd_len hv'
  obtain ⟨A, c, rfl, hn1, hc1, _, hr1⟩ := hv
  obtain ⟨A', c', rfl, hn2, hc2, _, hr2⟩ := hv'
  rw [ints_len, Nat.mul_one] at hl1 hl2
  by_cases hnn : n = n'
  · subst hnn
    have hle : ys.length = zs.length := by omega
    have L1 := Lib.hid hl1
    have L2 := Lib.hid hl2
    have L3 := Lib.hid hle
    have R1 := Lib.hid hr1
    have R2 := Lib.hid hr2
    clear hl1 hl2 hle hr1 hr2
    go_enter Tryd.func14, Tryd.ntmps14
    go_wp2_with fail
    go_loopg [5] n (A2sR w n ys zs)
    case atStart => exact ⟨0, by omega, by omega, rfl, by omega, Below.refl _ _⟩
    case round =>
      obtain ⟨j, hj1, hj2, rfl, hall, hbw⟩ := hrel
      have HA := Lib.hid hall
      clear hall
      by_cases hjn : j < n
      · obtain ⟨y, hy⟩ := get_ex (l := ys) (k := j) (by have := L1.out; omega)
        obtain ⟨z, hz⟩ := get_ex (l := zs) (k := j) (by have := L2.out; omega)
        rcases R1.out with h0 | ⟨g, o, rfl, hg, hcell⟩
        · omega
        rcases R2.out with h0 | ⟨g', o', rfl, hg', hcell'⟩
        · omega
        have c1 : wr.cell? ⟨g, o + j, none⟩ = some (.int .i64 y) := (hbw.cell (p := ⟨g, o + j, none⟩) hg).trans (hcell j _ (ints_get hy))
        have c2 : wr.cell? ⟨g', o' + j, none⟩ = some (.int .i64 z) := (hbw.cell (p := ⟨g', o' + j, none⟩) hg').trans (hcell' j _ (ints_get hz))
        have hs := hbw.size
        have hgw : g < wr.heap.size := by omega
        have hgw' : g' < wr.heap.size := by omega
        have HY := Lib.hid hy
        have HZ := Lib.hid hz
        clear hy hz hcell hcell' R1 R2
        by_cases hyz : y = z
        · subst hyz
          go_wp2_with fail
          refine wp_region_calm (by kernel_rfl) (by kernel_rfl) ?_
          repeat (go_big_quiet_step ((fail)))
          refine wpQuiet_nil ?_
          intro w1 hb_w1
          obtain ⟨hc_w1, hf_w1, hs_w1⟩ := bcell hb_w1
          try simp at hs_w1
          go_wp2
          go_roundg (gk - 1)
          case measure => omega
          case rel =>
            refine ⟨j + 1, by omega, by omega, by go_num, ?_, bthen hbw hb_w1 hbw.size⟩
            intro t ht
            by_cases e : t = j
            · subst e; rw [HY.out, HZ.out]
            · exact HA.out t (by omega)
        · have e1 : (y != z) = true := by simp [hyz]
          have e2 : (ys == zs) = false := by
            rw [beq_eq_false_iff_ne]
            intro e
            have h1 := HY.out
            rw [e, HZ.out] at h1
            injection h1 with h1
            exact hyz h1.symm
          obtain rfl : false = r := by rw [← HR.out, e2]
          clear e2 hyz HR
          go_wp2_with fail
          refine wp_region_calm (by kernel_rfl) (by kernel_rfl) ?_
          repeat (go_big_quiet_step ((fail)))
          refine wpQuiet_nil ?_
          intro w1 hb_w1
          obtain ⟨hc_w1, hf_w1, hs_w1⟩ := bcell hb_w1
          try simp at hs_w1
          go_wp2
          go_ret
          refine ⟨by first | rfl | (simp), ?_⟩
          repeat' (first | (with_reducible exact Below.refl _ _) | (with_reducible assumption) | (with_reducible refine Below.alloc ?_ ?_ _) | (with_reducible refine Below.drew ?_) | (with_reducible refine bdrewN ?_ _) | (with_reducible refine Below.setCell ?_ ?_ _) | (with_reducible refine bthen ?_ (by assumption) ?_) | go_size)
      · have e2 : (ys == zs) = true := by
          rw [beq_iff_eq]
          apply List.ext_getElem?
          intro t
          by_cases ht : t < j
          · exact HA.out t ht
          · rw [List.getElem?_eq_none (by have := L1.out; omega), List.getElem?_eq_none (by have := L2.out; omega)]
        obtain rfl : true = r := by rw [← HR.out, e2]
        clear e2 HR
        go_wp2
        go_ret
        refine ⟨by first | rfl | (simp), ?_⟩
        repeat' (first | (with_reducible exact Below.refl _ _) | (with_reducible assumption) | (with_reducible refine Below.alloc ?_ ?_ _) | (with_reducible refine Below.drew ?_) | (with_reducible refine bdrewN ?_ _) | (with_reducible refine Below.setCell ?_ ?_ _) | (with_reducible refine bthen ?_ (by assumption) ?_) | go_size)
  · have e2 : (ys == zs) = false := by
      rw [beq_eq_false_iff_ne]
      intro e
      subst e
      omega
    have e3 : ((n : Int) != (n' : Int)) = true := by
      rw [bne_iff_ne]
      omega
    obtain rfl : false = r := by rw [← HR.out, e2]
    clear e2 hr1 hr2 hl1 hl2 hnn HR
    go_enter Tryd.func14, Tryd.ntmps14
    go_wp2
    go_ret
    refine ⟨by first | rfl | (simp), ?_⟩
    repeat' (first | (with_reducible exact Below.refl _ _) | (with_reducible assumption) | (with_reducible refine Below.alloc ?_ ?_ _) | (with_reducible refine Below.drew ?_) | (with_reducible refine bdrewN ?_ _) | (with_reducible refine Below.setCell ?_ ?_ _) | (with_reducible refine bthen ?_ (by assumption) ?_) | go_size)
end Go.Proofs.YtibbokllongomaaDoor
