/-
  Which runs are a path: both packages' loops.
-/
import Derived.Test.YtlmmpeeacjbobaaGreatDoorOk
namespace Go.Proofs.YtlmmpeeacjbobaaGreatDoor
open Go.RowKit

def VpR (w : World) (n : Nat) (rs : List Int) (k : Nat) (i : Value) (wr : World) : Prop :=
  ∃ j : Nat, j ≤ n ∧ n ≤ j + k ∧ i = .int .i64 j ∧ (∀ t, t < j → inB (rs.getD t 0) (lowR n t) 1000000000 = true) ∧ Below w.heap.size w wr
set_option maxHeartbeats 1000000 in
theorem validPath_big (v : Value) (n : Nat) (rs : List Int) (w : World) (hv : Rd w 1 v n (ints rs)) (hn : n ≤ 2097152) (r : Bool) (hr : okR rs = r) : Calls Tryz.prog 20 #[v] w (Ret w (.bool r)) := by
  have hl : rs.length = n := by have := (rd_len hv).1; rw [ints_len] at this; omega
  obtain ⟨A, c, rfl, hn1, hc1, _, hr1⟩ := hv
  have R1 := Lib.hid hr1
  have HL := Lib.hid hl
  have hr2 : (decide (n ≤ 60) && decide (∀ t, t < n → inB (rs.getD t 0) (lowR n t) 1000000000 = true)) = r := by rw [← hr]; unfold okR; rw [hl]
  have HR := Lib.hid hr2
  clear hr1 hl hr hr2
  by_cases h60 : n ≤ 60
  rotate_left
  · obtain rfl : false = r := by rw [← HR.out, decide_eq_false h60, Bool.false_and]
    have h60' : (60 : Int) < (n : Int) := by omega
    clear HR R1
    go_enter Tryz.func20, Tryz.ntmps20
    go_wp2
    go_ret
    refine ⟨by first | rfl | (simp), ?_⟩
    repeat' (first | (with_reducible exact Below.refl _ _) | (with_reducible assumption) | (with_reducible refine Below.alloc ?_ ?_ _) | (with_reducible refine Below.drew ?_) | (with_reducible refine bdrewN ?_ _) | (with_reducible refine Below.setCell ?_ ?_ _) | (with_reducible refine bthen ?_ (by assumption) ?_) | go_size)
  have h60' : ¬ ((60 : Int) < (n : Int)) := by omega
  go_enter Tryz.func20, Tryz.ntmps20
  go_wp2_with fail
  go_loopg [11] n (VpR w n rs)
  case atStart => exact ⟨0, by omega, by omega, rfl, fun t ht => absurd ht (by omega), Below.refl _ _⟩
  case round =>
    obtain ⟨j, hj1, hj2, rfl, hall, hbw⟩ := hrel
    have HA := Lib.hid hall
    clear hall
    have hs := hbw.size
    by_cases hjn : j < n
    · obtain ⟨z, hz⟩ := get_ex (l := rs) (k := j) (by have := HL.out; omega)
      have hgd : rs.getD j 0 = z := by rw [List.getD_eq_getElem?_getD, hz]; rfl
      rcases R1.out with h0 | ⟨g, o, rfl, hg, hcell⟩
      · omega
      have c1 : wr.cell? ⟨g, o + j, none⟩ = some (.int .i64 z) := (hbw.cell (p := ⟨g, o + j, none⟩) hg).trans (hcell j _ (ints_get hz))
      have hgw : g < wr.heap.size := by omega
      have hjn' : (j : Int) < (n : Int) := by omega
      obtain ⟨b, hb⟩ : ∃ b, inB z (lowR n j) 1000000000 = b := ⟨_, rfl⟩
      have kI := fun w => within_any z (lowR n j) 1000000000 b hb w
      have hf : b = false → false = r := fun e => by
        rw [← HR.out]
        have : decide (∀ t, t < n → inB (rs.getD t 0) (lowR n t) 1000000000 = true) = false := by
          rw [decide_eq_false_iff_not]
          intro h
          have h2 := h j hjn
          rw [hgd, hb, e] at h2
          cases h2
        rw [this, Bool.and_false]
      have HF := Lib.hid hf
      have hb2 : inB (rs.getD j 0) (lowR n j) 1000000000 = b := by rw [hgd]; exact hb
      have HB := Lib.hid hb2
      clear hz hcell R1 hgd hb hb2 hf
      by_cases hj0 : j = 0
      · subst hj0
        rw [Nat.add_zero] at c1
        by_cases h1 : 1 < n
        · have hlow : lowR n 0 = 0 := by unfold lowR; rw [if_pos ⟨rfl, h1⟩]
          have h1' : (1 : Int) < (n : Int) := by omega
          rw [hlow] at kI
          cases b
          · obtain rfl : false = r := HF.out rfl
            clear HF HB
            go_wp2_with fail
            apply Calls.mono
            · with_reducible exact kI _
            rintro _ w3 ⟨rfl, hb_w3⟩
            have belz := bthen hbw hb_w3 hbw.size
            go_wp2
            go_ret
            refine ⟨by first | rfl | (simp), ?_⟩
            repeat' (first | (with_reducible exact Below.refl _ _) | (with_reducible assumption) | (with_reducible refine Below.alloc ?_ ?_ _) | (with_reducible refine Below.drew ?_) | (with_reducible refine bdrewN ?_ _) | (with_reducible refine Below.setCell ?_ ?_ _) | (with_reducible refine bthen ?_ (by assumption) ?_) | go_size)
          · clear HF
            go_wp2_with fail
            apply Calls.mono
            · with_reducible exact kI _
            rintro _ w3 ⟨rfl, hb_w3⟩
            have belz := bthen hbw hb_w3 hbw.size
            go_wp2
            go_roundg (gk - 1)
            case measure => omega
            case rel =>
              refine ⟨0 + 1, by omega, by omega, by go_num, ?_, belz⟩
              intro t ht
              by_cases e : t = 0
              · subst e; exact HB.out
              · exact HA.out t (by omega)
        · have hlow : lowR n 0 = 1 := by unfold lowR; rw [if_neg (fun h => h1 h.2)]
          have h1' : ¬ ((1 : Int) < (n : Int)) := by omega
          rw [hlow] at kI
          cases b
          · obtain rfl : false = r := HF.out rfl
            clear HF HB
            go_wp2_with fail
            apply Calls.mono
            · with_reducible exact kI _
            rintro _ w3 ⟨rfl, hb_w3⟩
            have belz := bthen hbw hb_w3 hbw.size
            go_wp2
            go_ret
            refine ⟨by first | rfl | (simp), ?_⟩
            repeat' (first | (with_reducible exact Below.refl _ _) | (with_reducible assumption) | (with_reducible refine Below.alloc ?_ ?_ _) | (with_reducible refine Below.drew ?_) | (with_reducible refine bdrewN ?_ _) | (with_reducible refine Below.setCell ?_ ?_ _) | (with_reducible refine bthen ?_ (by assumption) ?_) | go_size)
          · clear HF
            go_wp2_with fail
            apply Calls.mono
            · with_reducible exact kI _
            rintro _ w3 ⟨rfl, hb_w3⟩
            have belz := bthen hbw hb_w3 hbw.size
            go_wp2
            go_roundg (gk - 1)
            case measure => omega
            case rel =>
              refine ⟨0 + 1, by omega, by omega, by go_num, ?_, belz⟩
              intro t ht
              by_cases e : t = 0
              · subst e; exact HB.out
              · exact HA.out t (by omega)
      · have hlow : lowR n j = 1 := by unfold lowR; rw [if_neg (fun h => hj0 h.1)]
        have h1' : ¬ ((j : Int) = 0) := by omega
        rw [hlow] at kI
        cases b
        · obtain rfl : false = r := HF.out rfl
          clear HF HB
          go_wp2_with fail
          apply Calls.mono
          · with_reducible exact kI _
          rintro _ w3 ⟨rfl, hb_w3⟩
          have belz := bthen hbw hb_w3 hbw.size
          go_wp2
          go_ret
          refine ⟨by first | rfl | (simp), ?_⟩
          repeat' (first | (with_reducible exact Below.refl _ _) | (with_reducible assumption) | (with_reducible refine Below.alloc ?_ ?_ _) | (with_reducible refine Below.drew ?_) | (with_reducible refine bdrewN ?_ _) | (with_reducible refine Below.setCell ?_ ?_ _) | (with_reducible refine bthen ?_ (by assumption) ?_) | go_size)
        · clear HF
          go_wp2_with fail
          apply Calls.mono
          · with_reducible exact kI _
          rintro _ w3 ⟨rfl, hb_w3⟩
          have belz := bthen hbw hb_w3 hbw.size
          go_wp2
          go_roundg (gk - 1)
          case measure => omega
          case rel =>
            refine ⟨j + 1, by omega, by omega, by go_num, ?_, belz⟩
            intro t ht
            by_cases e : t = j
            · subst e; exact HB.out
            · exact HA.out t (by omega)
    · obtain rfl : j = n := by omega
      obtain rfl : true = r := by rw [← HR.out, decide_eq_true h60, decide_eq_true HA.out]; rfl
      clear HR
      have hjn' : ¬ (j : Int) < (j : Int) := by omega
      go_wp2
      go_ret
      refine ⟨by first | rfl | (simp), ?_⟩
      repeat' (first | (with_reducible exact Below.refl _ _) | (with_reducible assumption) | (with_reducible refine Below.alloc ?_ ?_ _) | (with_reducible refine Below.drew ?_) | (with_reducible refine bdrewN ?_ _) | (with_reducible refine Below.setCell ?_ ?_ _) | (with_reducible refine bthen ?_ (by assumption) ?_) | go_size)
theorem validPath_any (v : Value) (n : Nat) (rs : List Int) (w : World) (hv : Rd w 1 v n (ints rs)) (hn : n ≤ 1048576) (r : Bool) (hr : okR rs = r) : Calls Tryz.prog 20 #[v] w (Ret w (.bool r)) := validPath_big v n rs w hv (by omega) r hr
set_option maxHeartbeats 1000000 in
theorem l05Ok_big (v : Value) (n : Nat) (rs : List Int) (w : World) (hv : Rd w 1 v n (ints rs)) (hn : n ≤ 2097152) (r : Bool) (hr : okR rs = r) : Calls Tryz.prog 25 #[v] w (Ret w (.bool r)) := by
  have hl : rs.length = n := by have := (rd_len hv).1; rw [ints_len] at this; omega
  obtain ⟨A, c, rfl, hn1, hc1, _, hr1⟩ := hv
  have R1 := Lib.hid hr1
  have HL := Lib.hid hl
  have hr2 : (decide (n ≤ 60) && decide (∀ t, t < n → inB (rs.getD t 0) (lowR n t) 1000000000 = true)) = r := by rw [← hr]; unfold okR; rw [hl]
  have HR := Lib.hid hr2
  clear hr1 hl hr hr2
  go_enter Tryz.func25, Tryz.ntmps25
  go_wp2_with fail
  go_loopg [3] n (VpR w n rs)
  case atStart => exact ⟨0, by omega, by omega, rfl, fun t ht => absurd ht (by omega), Below.refl _ _⟩
  case round =>
    obtain ⟨j, hj1, hj2, rfl, hall, hbw⟩ := hrel
    have HA := Lib.hid hall
    clear hall
    have hs := hbw.size
    by_cases hjn : j < n
    · obtain ⟨z, hz⟩ := get_ex (l := rs) (k := j) (by have := HL.out; omega)
      have hgd : rs.getD j 0 = z := by rw [List.getD_eq_getElem?_getD, hz]; rfl
      rcases R1.out with h0 | ⟨g, o, rfl, hg, hcell⟩
      · omega
      have c1 : wr.cell? ⟨g, o + j, none⟩ = some (.int .i64 z) := (hbw.cell (p := ⟨g, o + j, none⟩) hg).trans (hcell j _ (ints_get hz))
      have hgw : g < wr.heap.size := by omega
      have hjn' : (j : Int) < (n : Int) := by omega
      obtain ⟨b, hb⟩ : ∃ b, inB z (lowR n j) 1000000000 = b := ⟨_, rfl⟩
      have kI := fun w => l00In_any z (lowR n j) 1000000000 b hb w
      have hf : b = false → false = r := fun e => by
        rw [← HR.out]
        have : decide (∀ t, t < n → inB (rs.getD t 0) (lowR n t) 1000000000 = true) = false := by
          rw [decide_eq_false_iff_not]
          intro h
          have h2 := h j hjn
          rw [hgd, hb, e] at h2
          cases h2
        rw [this, Bool.and_false]
      have HF := Lib.hid hf
      have hb2 : inB (rs.getD j 0) (lowR n j) 1000000000 = b := by rw [hgd]; exact hb
      have HB := Lib.hid hb2
      clear hz hcell R1 hgd hb hb2 hf
      by_cases hj0 : j = 0
      · subst hj0
        rw [Nat.add_zero] at c1
        by_cases h1 : 1 < n
        · have hlow : lowR n 0 = 0 := by unfold lowR; rw [if_pos ⟨rfl, h1⟩]
          have h1' : (1 : Int) < (n : Int) := by omega
          rw [hlow] at kI
          cases b
          · obtain rfl : false = r := HF.out rfl
            clear HF HB
            go_wp2_with fail
            apply Calls.mono
            · with_reducible exact kI _
            rintro _ w3 ⟨rfl, hb_w3⟩
            have belz := bthen hbw hb_w3 hbw.size
            go_wp2
            go_ret
            refine ⟨by first | rfl | (simp), ?_⟩
            repeat' (first | (with_reducible exact Below.refl _ _) | (with_reducible assumption) | (with_reducible refine Below.alloc ?_ ?_ _) | (with_reducible refine Below.drew ?_) | (with_reducible refine bdrewN ?_ _) | (with_reducible refine Below.setCell ?_ ?_ _) | (with_reducible refine bthen ?_ (by assumption) ?_) | go_size)
          · clear HF
            go_wp2_with fail
            apply Calls.mono
            · with_reducible exact kI _
            rintro _ w3 ⟨rfl, hb_w3⟩
            have belz := bthen hbw hb_w3 hbw.size
            go_wp2
            go_roundg (gk - 1)
            case measure => omega
            case rel =>
              refine ⟨0 + 1, by omega, by omega, by go_num, ?_, belz⟩
              intro t ht
              by_cases e : t = 0
              · subst e; exact HB.out
              · exact HA.out t (by omega)
        · have hlow : lowR n 0 = 1 := by unfold lowR; rw [if_neg (fun h => h1 h.2)]
          have h1' : ¬ ((1 : Int) < (n : Int)) := by omega
          rw [hlow] at kI
          cases b
          · obtain rfl : false = r := HF.out rfl
            clear HF HB
            go_wp2_with fail
            apply Calls.mono
            · with_reducible exact kI _
            rintro _ w3 ⟨rfl, hb_w3⟩
            have belz := bthen hbw hb_w3 hbw.size
            go_wp2
            go_ret
            refine ⟨by first | rfl | (simp), ?_⟩
            repeat' (first | (with_reducible exact Below.refl _ _) | (with_reducible assumption) | (with_reducible refine Below.alloc ?_ ?_ _) | (with_reducible refine Below.drew ?_) | (with_reducible refine bdrewN ?_ _) | (with_reducible refine Below.setCell ?_ ?_ _) | (with_reducible refine bthen ?_ (by assumption) ?_) | go_size)
          · clear HF
            go_wp2_with fail
            apply Calls.mono
            · with_reducible exact kI _
            rintro _ w3 ⟨rfl, hb_w3⟩
            have belz := bthen hbw hb_w3 hbw.size
            go_wp2
            go_roundg (gk - 1)
            case measure => omega
            case rel =>
              refine ⟨0 + 1, by omega, by omega, by go_num, ?_, belz⟩
              intro t ht
              by_cases e : t = 0
              · subst e; exact HB.out
              · exact HA.out t (by omega)
      · have hlow : lowR n j = 1 := by unfold lowR; rw [if_neg (fun h => hj0 h.1)]
        have h1' : ¬ ((j : Int) = 0) := by omega
        rw [hlow] at kI
        cases b
        · obtain rfl : false = r := HF.out rfl
          clear HF HB
          go_wp2_with fail
          apply Calls.mono
          · with_reducible exact kI _
          rintro _ w3 ⟨rfl, hb_w3⟩
          have belz := bthen hbw hb_w3 hbw.size
          go_wp2
          go_ret
          refine ⟨by first | rfl | (simp), ?_⟩
          repeat' (first | (with_reducible exact Below.refl _ _) | (with_reducible assumption) | (with_reducible refine Below.alloc ?_ ?_ _) | (with_reducible refine Below.drew ?_) | (with_reducible refine bdrewN ?_ _) | (with_reducible refine Below.setCell ?_ ?_ _) | (with_reducible refine bthen ?_ (by assumption) ?_) | go_size)
        · clear HF
          go_wp2_with fail
          apply Calls.mono
          · with_reducible exact kI _
          rintro _ w3 ⟨rfl, hb_w3⟩
          have belz := bthen hbw hb_w3 hbw.size
          go_wp2
          go_roundg (gk - 1)
          case measure => omega
          case rel =>
            refine ⟨j + 1, by omega, by omega, by go_num, ?_, belz⟩
            intro t ht
            by_cases e : t = j
            · subst e; exact HB.out
            · exact HA.out t (by omega)
    · obtain rfl : j = n := by omega
      have hr3 := HR.out
      rw [decide_eq_true HA.out, Bool.and_true] at hr3
      clear HR HA
      have hjn' : ¬ (j : Int) < (j : Int) := by omega
      by_cases h60 : j ≤ 60
      · obtain rfl : true = r := by rw [← hr3, decide_eq_true h60]
        have h60' : (j : Int) ≤ 60 := by omega
        clear hr3
        go_wp2
        go_ret
        refine ⟨by first | rfl | (simp), ?_⟩
        repeat' (first | (with_reducible exact Below.refl _ _) | (with_reducible assumption) | (with_reducible refine Below.alloc ?_ ?_ _) | (with_reducible refine Below.drew ?_) | (with_reducible refine bdrewN ?_ _) | (with_reducible refine Below.setCell ?_ ?_ _) | (with_reducible refine bthen ?_ (by assumption) ?_) | go_size)
      · obtain rfl : false = r := by rw [← hr3, decide_eq_false h60]
        have h60' : ¬ ((j : Int) ≤ 60) := by omega
        clear hr3
        go_wp2
        go_ret
        refine ⟨by first | rfl | (simp), ?_⟩
        repeat' (first | (with_reducible exact Below.refl _ _) | (with_reducible assumption) | (with_reducible refine Below.alloc ?_ ?_ _) | (with_reducible refine Below.drew ?_) | (with_reducible refine bdrewN ?_ _) | (with_reducible refine Below.setCell ?_ ?_ _) | (with_reducible refine bthen ?_ (by assumption) ?_) | go_size)
theorem l05Ok_any (v : Value) (n : Nat) (rs : List Int) (w : World) (hv : Rd w 1 v n (ints rs)) (hn : n ≤ 1048576) (r : Bool) (hr : okR rs = r) : Calls Tryz.prog 25 #[v] w (Ret w (.bool r)) := l05Ok_big v n rs w hv (by omega) r hr
end Go.Proofs.YtlmmpeeacjbobaaGreatDoor
