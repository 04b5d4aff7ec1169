/-
  The root with the longest period: both packages' loops.
-/
import Derived.Test.YtkjakgemjhbfoaaLeast
namespace Go.Proofs.Ytkjakgemjhbfoaa
open Go.RowKit

def lgF : Nat → Int × Nat
  | 0 => (0, 0)
  | k + 1 => if sqB ((k : Int) + 2) then lgF k else if (lgF k).2 < perN ((k : Int) + 2) then ((k : Int) + 2, perN ((k : Int) + 2)) else lgF k
def lgM (n : Int) : Int × Int × Int := if inB n 2 1000 then ((lgF (n - 1).toNat).1, ((lgF (n - 1).toNat).2 : Nat), 0) else (0, 0, 2)
theorem pd_of {d : Int} (h1 : 2 ≤ d) (h2 : d ≤ 10000) (h3 : sqB d = false) : pdM d = 0 := by
  unfold pdM
  rw [inB_iff.2 ⟨h1, h2⟩, h3]; rfl
theorem lg_bd (k : Nat) (hk : k ≤ 1000) : (lgF k).2 ≤ 400 ∧ 0 ≤ (lgF k).1 ∧ (lgF k).1 ≤ 1002 := by
  induction k with
  | zero => simp [lgF]
  | succ k ih =>
    have ih := ih (by omega)
    unfold lgF
    split
    · exact ih
    · rename_i h
      split
      · have := (per_spec (pd_of (d := (k : Int) + 2) (by omega) (by omega) (by simpa using h))).2
        simp only; omega
      · exact ih
def LoR (w : World) (N : Nat) (k : Nat) (b n d : Value) (wr : World) : Prop :=
  ∃ t : Nat, t ≤ N ∧ N ≤ t + k ∧ d = .int .i64 ((t : Int) + 2) ∧ b = .int .i64 (lgF t).1 ∧ n = .int .i64 ((lgF t).2 : Nat) ∧ Below w.heap.size w wr
set_option maxRecDepth 100000 in
set_option maxHeartbeats 2000000 in
theorem longestI_any (n : Int) (w : World) : Calls Try.prog 22 #[.int .i64 n] w (Ret w (.tuple #[.int .i64 (lgM n).1, .int .i64 (lgM n).2.1, .int .i64 (lgM n).2.2])) := by
  cases h1 : inB n 2 1000
  · have e : lgM n = (0, 0, 2) := by unfold lgM; rw [h1]; rfl
    rw [e]; clear e
    have H1 := Lib.hid h1
    clear h1
    go_enter Try.func22, Try.ntmps22
    go_wp2_with fail
    apply Calls.mono
    · with_reducible exact within_any _ _ _ false H1.out _
    rintro _ w1 ⟨rfl, hb_w1⟩
    obtain ⟨hc_w1, hf_w1, hs_w1⟩ := bcell hb_w1
    try simp at hs_w1
    go_wp2
    go_ret3
    refine ⟨by first | rfl | (simp), ?_⟩
    repeat' (first | (with_reducible exact Below.refl _ _) | (with_reducible assumption) | (with_reducible refine Below.alloc ?_ ?_ _) | (with_reducible refine Below.drew ?_) | (with_reducible refine bdrewN ?_ _) | (with_reducible refine Below.setCell ?_ ?_ _) | (with_reducible refine bthen ?_ (by assumption) ?_) | go_size)
  · obtain ⟨a, b⟩ := inB_iff.1 h1
    have H1 := Lib.hid h1
    obtain ⟨N, rfl⟩ : ∃ N : Nat, n = (N : Int) + 1 := ⟨(n - 1).toNat, by omega⟩
    have e : lgM ((N : Int) + 1) = ((lgF N).1, (((lgF N).2 : Nat) : Int), 0) := by
      unfold lgM
      rw [h1, if_pos rfl, show ((N : Int) + 1 - 1).toNat = N by omega]
    rw [e]; clear e
    obtain ⟨⟨r1, r2⟩, hR⟩ : ∃ R, lgF N = R := ⟨_, rfl⟩
    rw [hR]
    have HR := Lib.hid hR
    clear h1 hR
    go_enter Try.func22, Try.ntmps22
    go_wp2_with fail
    apply Calls.mono
    · with_reducible exact within_any _ _ _ true H1.out _
    rintro _ w1 ⟨rfl, hb_w1⟩
    obtain ⟨hc_w1, hf_w1, hs_w1⟩ := bcell hb_w1
    try simp at hs_w1
    go_wp2_with fail
    go_loopg [5, 6, 7] N (LoR w N)
    case atStart => exact ⟨0, by omega, by omega, rfl, rfl, rfl, by repeat' (first | (with_reducible exact Below.refl _ _) | (with_reducible assumption) | (with_reducible refine Below.alloc ?_ ?_ _) | (with_reducible refine Below.drew ?_) | (with_reducible refine bdrewN ?_ _) | (with_reducible refine Below.setCell ?_ ?_ _) | (with_reducible refine bthen ?_ (by assumption) ?_) | go_size)⟩
    case round =>
      obtain ⟨t, ht, htk, rfl, rfl, rfl, hbw⟩ := hrel
      obtain ⟨l1, l2, l3⟩ := lg_bd t (by omega)
      by_cases htN : t < N
      · have hun : lgF (t + 1) = if sqB ((t : Int) + 2) then lgF t else if (lgF t).2 < perN ((t : Int) + 2) then ((t : Int) + 2, perN ((t : Int) + 2)) else lgF t := rfl
        have htN' : (t : Int) + 2 ≤ (N : Int) + 1 := by omega
        cases hs : sqB ((t : Int) + 2)
        · rw [hs] at hun
          simp only [Bool.false_eq_true, if_false] at hun
          have hp := pd_of (d := (t : Int) + 2) (by omega) (by omega) hs
          obtain ⟨hl, hl4⟩ := per_spec hp
          have kR := fun w => rootPeriod_any ((t : Int) + 2) _ (rootD (by omega) (by omega) hs) w
          rw [hl] at kR
          unfold RootP at kR
          generalize perN ((t : Int) + 2) = l at *
          generalize ((isq ((t : Int) + 2).toNat : Nat) : Int) = a0 at *
          have HS := Lib.hid hs
          by_cases hgt : (lgF t).2 < l
          · rw [if_pos hgt] at hun
            have hgt' : ((lgF t).2 : Int) < (l : Int) := by omega
            have hl' : (l : Int) ≤ 400 := by omega
            have HUN := Lib.hid hun
            generalize (lgF t).1 = bb at *
            generalize (lgF t).2 = nn at *
            clear hun hl hs hp hgt
            go_wp2_with fail
            apply Calls.mono
            · with_reducible exact isSquare_any _ (by omega) false HS.out _
            rintro _ w2 ⟨rfl, hb_w2⟩
            go_wp2_with fail
            apply Calls.mono
            · with_reducible exact kR _
            rintro _ w3 (⟨m, v, hr, _, _, rfl, ho, hb_w3⟩ | ⟨hr, _, _⟩)
            · obtain rfl : l + 1 = m := by injection hr with hr; injection hr
              rw [show l + 1 - 1 = l by omega] at ho
              clear kR hr
              go_wp2_with fail
              apply Calls.mono
              · with_reducible exact sizeI_any _ _ _ _ (Rd.of_own ho)
              rintro _ w4 ⟨rfl, hb_w4⟩
              have ho4 := own_below ho hb_w4 (Nat.le_refl _)
              go_wp2_with fail
              apply Calls.mono
              · with_reducible exact sizeI_any _ _ _ _ (Rd.of_own ho4)
              rintro _ w5 ⟨rfl, hb_w5⟩
              have q2 := hb_w2.size
              have q3 := hb_w3.size
              have q4 := hb_w4.size
              have q1 := hbw.size
              go_wp2
              go_roundg (gk - 1)
              case measure => omega
              case rel =>
                refine ⟨t + 1, by omega, by omega, by go_num, ?_, ?_, bthen (bthen (bthen (bthen hbw hb_w2 (by omega)) hb_w3 (by omega)) hb_w4 (by omega)) hb_w5 (by omega)⟩
                · rw [HUN.out]
                · rw [HUN.out]
            · cases hr
          · rw [if_neg hgt] at hun
            have hgt' : (l : Int) ≤ ((lgF t).2 : Int) := by omega
            have hl' : (l : Int) ≤ 400 := by omega
            have HUN := Lib.hid hun
            generalize hbb : (lgF t).1 = bb at *
            generalize hnn : (lgF t).2 = nn at *
            have HBB := Lib.hid hbb
            have HNN := Lib.hid hnn
            have hdd : decide (nn < l) = false := by rw [decide_eq_false_iff_not]; omega
            have hde : ¬ (nn < l) := by omega
            clear hun hl hs hp hgt hbb hnn hgt' l1
            go_wp2_with fail
            apply Calls.mono
            · with_reducible exact isSquare_any _ (by omega) false HS.out _
            rintro _ w2 ⟨rfl, hb_w2⟩
            go_wp2_with fail
            apply Calls.mono
            · with_reducible exact kR _
            rintro _ w3 (⟨m, v, hr, _, _, rfl, ho, hb_w3⟩ | ⟨hr, _, _⟩)
            · obtain rfl : l + 1 = m := by injection hr with hr; injection hr
              rw [show l + 1 - 1 = l by omega] at ho
              clear kR hr
              go_wp2_with fail
              apply Calls.mono
              · with_reducible exact sizeI_any _ _ _ _ (Rd.of_own ho)
              rintro _ w4 ⟨rfl, hb_w4⟩
              have q2 := hb_w2.size
              have q3 := hb_w3.size
              have q1 := hbw.size
              go_wp2
              go_roundg (gk - 1)
              case measure => omega
              case rel =>
                refine ⟨t + 1, by omega, by omega, by go_num, ?_, ?_, bthen (bthen (bthen hbw hb_w2 (by omega)) hb_w3 (by omega)) hb_w4 (by omega)⟩
                · rw [HUN.out, HBB.out]
                · rw [HUN.out, HNN.out]
            · cases hr
        · rw [hs] at hun
          simp only [if_true] at hun
          have HUN := Lib.hid hun
          have HS := Lib.hid hs
          generalize hbb : (lgF t).1 = bb at *
          generalize hnn : (lgF t).2 = nn at *
          have HBB := Lib.hid hbb
          have HNN := Lib.hid hnn
          clear hun hs hbb hnn
          go_wp2_with fail
          apply Calls.mono
          · with_reducible exact isSquare_any _ (by omega) true HS.out _
          rintro _ w2 ⟨rfl, hb_w2⟩
          have q1 := hbw.size
          go_wp2
          go_roundg (gk - 1)
          case measure => omega
          case rel =>
            refine ⟨t + 1, by omega, by omega, by go_num, ?_, ?_, bthen hbw hb_w2 (by omega)⟩
            · rw [HUN.out, HBB.out]
            · rw [HUN.out, HNN.out]
      · obtain rfl : t = N := by omega
        have e := HR.out
        obtain ⟨rfl, rfl⟩ : (lgF t).1 = r1 ∧ (lgF t).2 = r2 := by rw [e]; exact ⟨rfl, rfl⟩
        clear e HR
        generalize (lgF t).1 = bb at *
        generalize (lgF t).2 = nn at *
        go_wp2
        go_ret3
        refine ⟨by first | rfl | (simp), ?_⟩
        repeat' (first | (with_reducible exact Below.refl _ _) | (with_reducible assumption) | (with_reducible refine Below.alloc ?_ ?_ _) | (with_reducible refine Below.drew ?_) | (with_reducible refine bdrewN ?_ _) | (with_reducible refine Below.setCell ?_ ?_ _) | (with_reducible refine bthen ?_ (by assumption) ?_) | go_size)
end Go.Proofs.Ytkjakgemjhbfoaa
