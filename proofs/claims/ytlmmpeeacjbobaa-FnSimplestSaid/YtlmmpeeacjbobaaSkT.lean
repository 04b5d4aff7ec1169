/-
  The validity of lists of terms: the reference's way.
-/
import Derived.Test.YtlmmpeeacjbobaaCon
namespace Go.Proofs.Ytlmmpeeacjbobaa
open Go.RowKit

/-- The low bound of the term at a place. -/
def lowT (j : Nat) : Int := if j = 0 then -1000000000 else 1
def OkTR (w : World) (zs : List Int) (n : Nat) (k : Nat) (i : Value) (wr : World) : Prop :=
  ∃ j : Nat, j ≤ n ∧ n ≤ j + k ∧ i = .int .i64 j ∧ (∀ t z, t < j → zs[t]? = some z → inB z (lowT t) 1000000000 = true) ∧ Below w.heap.size w wr
theorem tms_low {zs : List Int} : tmsB zs = (decide (1 ≤ zs.length ∧ zs.length ≤ 60) && decide (∀ t, t < zs.length → inB (zs.getD t 0) (lowT t) 1000000000 = true)) := by
  have key : tmsB zs = true ↔ (1 ≤ zs.length ∧ zs.length ≤ 60) ∧ ∀ t, t < zs.length → inB (zs.getD t 0) (lowT t) 1000000000 = true := by
    rw [tms_iff]
    constructor
    · rintro ⟨h1, h2, h3⟩
      refine ⟨h1, fun t ht => ?_⟩
      rw [inB_iff]
      cases t with
      | zero => exact h2
      | succ t =>
        have := h3 (zs.getD (t + 1) 0) (List.mem_of_getElem? (i := t) (by
          rw [List.getElem?_drop, Nat.add_comm, List.getD_eq_getElem?_getD, List.getElem?_eq_getElem ht]; rfl))
        exact this
    · rintro ⟨h1, h2⟩
      refine ⟨h1, inB_iff.1 (h2 0 (by omega)), fun t ht => ?_⟩
      obtain ⟨j, hj, he⟩ := List.getElem_of_mem ht
      have hj' : j + 1 < zs.length := by rw [List.length_drop] at hj; omega
      have := inB_iff.1 (h2 (j + 1) hj')
      rw [List.getElem_drop] at he
      rw [List.getD_eq_getElem?_getD, List.getElem?_eq_getElem hj', Option.getD_some] at this
      have e2 : zs[j + 1] = t := by rw [← he]; congr 1; omega
      rw [e2] at this
      exact this
  cases h : tmsB zs
  · symm
    rw [Bool.and_eq_false_iff]
    by_cases h1 : 1 ≤ zs.length ∧ zs.length ≤ 60
    · right
      rw [decide_eq_false_iff_not]
      intro h2
      rw [key.2 ⟨h1, h2⟩] at h
      cases h
    · left
      exact decide_eq_false h1
  · obtain ⟨h1, h2⟩ := key.1 h
    rw [decide_eq_true h1, decide_eq_true h2]; rfl
set_option maxHeartbeats 1000000 in
theorem l03Ok_any (v : Value) (n : Nat) (zs : List Int) (w : World) (hv : Rd w 1 v n (ints zs)) (hn : n ≤ 4194304) (r : Bool) (hr : tmsB zs = r) : Calls Try.prog 123 #[v] w (Ret w (.bool r)) := by
  have hl : zs.length = n := by have := (rd_len hv).1; rw [ints_len] at this; omega
  obtain ⟨A, c, rfl, hn1, hc1, _, hr1⟩ := hv
  have R1 := Lib.hid hr1
  have HL := Lib.hid hl
  have HR := Lib.hid hr
  clear hr1 hl hr
  go_enter Try.func123, Try.ntmps123
  go_wp2_with fail
  go_loopg [3] n (OkTR w zs n)
  case atStart => exact ⟨0, by omega, by omega, rfl, fun t z h => by omega, Below.refl _ _⟩
  case round =>
    obtain ⟨j, hj1, hj2, rfl, hall, hbw⟩ := hrel
    have HA := Lib.hid hall
    clear hall
    by_cases hjn : j < n
    · obtain ⟨z, hz⟩ := get_ex (l := zs) (k := j) (by have := HL.out; omega)
      rcases R1.out with h0 | ⟨g, o, rfl, hg, hcell⟩
      · omega
      have c1 : wr.cell? ⟨g, o + j, none⟩ = some (.int .i64 z) := (hbw.cell (p := ⟨g, o + j, none⟩) hg).trans (hcell j _ (ints_get hz))
      have hs := hbw.size
      have hgw : g < wr.heap.size := by omega
      have hjn' : (j : Int) < (n : Int) := by omega
      have HZ := Lib.hid hz
      clear hz hcell R1
      have kI := fun r (hr : inB z (lowT j) 1000000000 = r) w => l00In_any z (lowT j) 1000000000 r hr w
      cases hq : inB z (lowT j) 1000000000
      · obtain rfl : false = r := by
          rw [← HR.out, tms_low, HL.out]
          symm
          rw [Bool.and_eq_false_iff]
          right
          rw [decide_eq_false_iff_not]
          intro h
          have := h j hjn
          rw [List.getD_eq_getElem?_getD, HZ.out, Option.getD_some, hq] at this
          cases this
        have kI1 := kI false hq
        clear kI hq
        by_cases hj0 : j = 0
        · subst hj0
          simp only [lowT, if_true] at kI1
          have c0 : wr.cell? ⟨g, o, none⟩ = some (.int .i64 z) := c1
          go_wp2_with fail
          apply Calls.mono
          · with_reducible exact kI1 _
          rintro _ w1 ⟨rfl, hb_w1⟩
          go_wp2
          go_ret
          refine ⟨by first | rfl | (simp), ?_⟩
          repeat' (first | (with_reducible exact Below.refl _ _) | (with_reducible assumption) | (with_reducible refine Below.alloc ?_ ?_ _) | (with_reducible refine Below.drew ?_) | (with_reducible refine bdrewN ?_ _) | (with_reducible refine Below.setCell ?_ ?_ _) | (with_reducible refine bthen ?_ (by assumption) ?_) | go_size)
        · unfold lowT at kI1
          rw [if_neg hj0] at kI1
          have hj0' : (j : Int) ≠ 0 := by omega
          go_wp2_with fail
          apply Calls.mono
          · with_reducible exact kI1 _
          rintro _ w1 ⟨rfl, hb_w1⟩
          go_wp2
          go_ret
          refine ⟨by first | rfl | (simp), ?_⟩
          repeat' (first | (with_reducible exact Below.refl _ _) | (with_reducible assumption) | (with_reducible refine Below.alloc ?_ ?_ _) | (with_reducible refine Below.drew ?_) | (with_reducible refine bdrewN ?_ _) | (with_reducible refine Below.setCell ?_ ?_ _) | (with_reducible refine bthen ?_ (by assumption) ?_) | go_size)
      · have kI1 := kI true hq
        have HQ := Lib.hid hq
        clear kI hq
        by_cases hj0 : j = 0
        · subst hj0
          simp only [lowT, if_true] at kI1
          have c0 : wr.cell? ⟨g, o, none⟩ = some (.int .i64 z) := c1
          go_wp2_with fail
          apply Calls.mono
          · with_reducible exact kI1 _
          rintro _ w1 ⟨rfl, hb_w1⟩
          go_wp2
          go_roundg (gk - 1)
          case measure => omega
          case rel =>
            refine ⟨1, by omega, by omega, by go_num, ?_, bthen hbw hb_w1 hbw.size⟩
            intro t x ht hx
            obtain rfl : t = 0 := by omega
            rw [HZ.out] at hx
            injection hx with hx
            rw [← hx]; exact HQ.out
        · unfold lowT at kI1
          rw [if_neg hj0] at kI1
          have hj0' : (j : Int) ≠ 0 := by omega
          go_wp2_with fail
          apply Calls.mono
          · with_reducible exact kI1 _
          rintro _ w1 ⟨rfl, hb_w1⟩
          go_wp2
          go_roundg (gk - 1)
          case measure => omega
          case rel =>
            refine ⟨j + 1, by omega, by omega, by go_num, ?_, bthen hbw hb_w1 hbw.size⟩
            intro t x ht hx
            by_cases e : t = j
            · subst e
              rw [HZ.out] at hx
              injection hx with hx
              rw [← hx]; exact HQ.out
            · exact HA.out t x (by omega) hx
    · have hw : inB (n : Int) 1 60 = r := by
        rw [← HR.out, tms_low, HL.out]
        have h2 : ∀ t, t < n → inB (zs.getD t 0) (lowT t) 1000000000 = true := by
          intro t ht
          obtain ⟨z, hz⟩ := get_ex (l := zs) (k := t) (by have := HL.out; omega)
          rw [List.getD_eq_getElem?_getD, hz]
          exact HA.out t z (by omega) hz
        rw [decide_eq_true h2, Bool.and_true]
        unfold inB
        rw [← Bool.decide_and]
        exact decide_eq_decide.2 (by omega)
      have HW := Lib.hid hw
      have hs := hbw.size
      clear hw
      go_wp2_with fail
      apply Calls.mono
      · with_reducible exact l00In_any _ _ _ _ HW.out _
      rintro _ w1 ⟨rfl, hb_w1⟩
      go_wp2
      go_ret
      refine ⟨by first | rfl | (simp), ?_⟩
      repeat' (first | (with_reducible exact Below.refl _ _) | (with_reducible assumption) | (with_reducible refine Below.alloc ?_ ?_ _) | (with_reducible refine Below.drew ?_) | (with_reducible refine bdrewN ?_ _) | (with_reducible refine Below.setCell ?_ ?_ _) | (with_reducible refine bthen ?_ (by assumption) ?_) | go_size)
end Go.Proofs.Ytlmmpeeacjbobaa
