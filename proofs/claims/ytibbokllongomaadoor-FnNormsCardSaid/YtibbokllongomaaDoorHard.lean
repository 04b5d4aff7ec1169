/-
  The hardest Pell equation: both packages' loops.
-/
import Derived.Test.YtibbokllongomaaDoorLong
namespace Go.Proofs.YtibbokllongomaaDoor
open Go.RowKit

def hpF : Nat → Int × Int × Int
  | 0 => (0, 0, 0)
  | k + 1 => if sqB ((k : Int) + 2) then hpF k else if lsB ((k : Int) + 2) (perN ((k : Int) + 2)) && decide ((hpF k).2.1 < lsX ((k : Int) + 2) (perN ((k : Int) + 2))) then ((k : Int) + 2, lsX ((k : Int) + 2) (perN ((k : Int) + 2)), lsY ((k : Int) + 2) (perN ((k : Int) + 2))) else hpF k
def hpM (n : Int) : Int × (Int × Int) × Int := if inB n 2 200 then ((hpF (n - 1).toNat).1, ((hpF (n - 1).toNat).2.1, (hpF (n - 1).toNat).2.2), 0) else (0, (0, 0), 2)
def HpR (w w1 : World) (N : Nat) (k : Nat) (b d : Value) (wr : World) : Prop :=
  ∃ t : Nat, t ≤ N ∧ N ≤ t + k ∧ d = .int .i64 ((t : Int) + 2) ∧ b = .int .i64 (hpF t).1 ∧ Blk wr w1.heap.size 40 #[.int .i64 (hpF t).2.1, .int .i64 (hpF t).2.2] ∧ Blk wr w.heap.size 40 #[.int .i64 0, .int .i64 0] ∧ Below w1.heap.size w1 wr
set_option maxRecDepth 100000 in
set_option maxHeartbeats 2000000 in
theorem hardestI_any (n : Int) (w : World) : Calls Tryd.prog 19 #[.int .i64 n] w (Ret w (.tuple #[.int .i64 (hpM n).1, .agg #[.int .i64 (hpM n).2.1.1, .int .i64 (hpM n).2.1.2], .int .i64 (hpM n).2.2])) := by
  cases h1 : inB n 2 200
  · have e : hpM n = (0, (0, 0), 2) := by unfold hpM; rw [h1]; rfl
    rw [e]; clear e
    have H1 := Lib.hid h1
    clear h1
    go_enter Tryd.func19, Tryd.ntmps19
    go_wp2_with fail
    apply Calls.mono
    · with_reducible exact within_any _ _ _ false H1.out _
    rintro _ w1 ⟨rfl, hb_w1⟩
    obtain ⟨hc_w1, hf_w1, hs_w1⟩ := bcell hb_w1
    try simp at hs_w1
    have hz_w1_w0 : w.heap.size < w1.heap.size := by omega
    have hy_w1_w0 : w.heap.size ≤ w1.heap.size := by omega
    have hx_w1_w0 : ∀ n : Nat, w.heap.size < w1.heap.size + n := by intro n; omega
    have hv_w1_w0 : ∀ n : Nat, w.heap.size ≤ w1.heap.size + n := by intro n; omega
    go_wp2
    refine bodyPost_ret (by simp [results, Tryd.results19, go_sem, *]; try rfl) rfl ?_
    refine ⟨by first | rfl | simp, ?_⟩
    repeat' (first | (with_reducible exact Below.refl _ _) | (with_reducible assumption) | (with_reducible refine Below.alloc ?_ ?_ _) | (with_reducible refine Below.drew ?_) | (with_reducible refine bdrewN ?_ _) | (with_reducible refine Below.setCell ?_ ?_ _) | (with_reducible refine bthen ?_ (by assumption) ?_) | go_size)
  · obtain ⟨a, b⟩ := inB_iff.1 h1
    have H1 := Lib.hid h1
    obtain ⟨N, rfl⟩ : ∃ N : Nat, n = (N : Int) + 1 := ⟨(n - 1).toNat, by omega⟩
    have e : hpM ((N : Int) + 1) = ((hpF N).1, ((hpF N).2.1, (hpF N).2.2), 0) := by
      unfold hpM
      rw [h1, if_pos rfl, show ((N : Int) + 1 - 1).toNat = N by omega]
    rw [e]; clear e
    obtain ⟨⟨r1, r2, r3⟩, hR⟩ : ∃ R, hpF N = R := ⟨_, rfl⟩
    rw [hR]
    have HR := Lib.hid hR
    clear h1 hR
    go_enter Tryd.func19, Tryd.ntmps19
    go_wp2_with fail
    apply Calls.mono
    · with_reducible exact within_any _ _ _ true H1.out _
    rintro _ w1 ⟨rfl, hb_w1⟩
    obtain ⟨hc_w1, hf_w1, hs_w1⟩ := bcell hb_w1
    try simp at hs_w1
    have hz_w1_w0 : w.heap.size < w1.heap.size := by omega
    have hy_w1_w0 : w.heap.size ≤ w1.heap.size := by omega
    have hx_w1_w0 : ∀ n : Nat, w.heap.size < w1.heap.size + n := by intro n; omega
    have hv_w1_w0 : ∀ n : Nat, w.heap.size ≤ w1.heap.size + n := by intro n; omega
    have q1 := hb_w1.size
    rw [World.size_alloc] at q1
    have hR0 := (Blk.new w 40 #[.int .i64 0, .int .i64 0]).below hb_w1 (by simp)
    have bel1 : Below w.heap.size w w1 := by repeat' (first | (with_reducible exact Below.refl _ _) | (with_reducible assumption) | (with_reducible refine Below.alloc ?_ ?_ _) | (with_reducible refine Below.drew ?_) | (with_reducible refine bdrewN ?_ _) | (with_reducible refine Below.setCell ?_ ?_ _) | (with_reducible refine bthen ?_ (by assumption) ?_) | go_size)
    go_wp2_with fail
    go_loopg [5, 7] N (HpR w w1 N)
    case atStart => exact ⟨0, by omega, by omega, rfl, rfl, Blk.new w1 _ _, hR0.alloc _, (Below.refl _ _).alloc (Nat.le_refl _) _⟩
    case round =>
      obtain ⟨t, ht, htk, rfl, rfl, hB, hR, hbw⟩ := hrel
      have qr := hbw.size
      have lB := hB.lt
      by_cases htN : t < N
      · have hun : hpF (t + 1) = if sqB ((t : Int) + 2) then hpF t else if lsB ((t : Int) + 2) (perN ((t : Int) + 2)) && decide ((hpF t).2.1 < lsX ((t : Int) + 2) (perN ((t : Int) + 2))) then ((t : Int) + 2, lsX ((t : Int) + 2) (perN ((t : Int) + 2)), lsY ((t : Int) + 2) (perN ((t : Int) + 2))) else hpF t := rfl
        have htN' : (t : Int) + 2 ≤ (N : Int) + 1 := by omega
        cases hs : sqB ((t : Int) + 2)
        · rw [hs] at hun
          simp only [Bool.false_eq_true, if_false] at hun
          have hp := pd_of (d := (t : Int) + 2) (by omega) (by omega) hs
          have kL := fun w => leastPell_any ((t : Int) + 2) hp w
          unfold LeastP at kL
          have HS := Lib.hid hs
          generalize lsX ((t : Int) + 2) (perN ((t : Int) + 2)) = X' at *
          generalize lsY ((t : Int) + 2) (perN ((t : Int) + 2)) = Y' at *
          generalize lsB ((t : Int) + 2) (perN ((t : Int) + 2)) = bk at *
          generalize hbb : (hpF t).1 = bb at *
          generalize hXX : (hpF t).2.1 = X at *
          generalize hYY : (hpF t).2.2 = Y at *
          have HBB := Lib.hid hbb
          have HXX := Lib.hid hXX
          have HYY := Lib.hid hYY
          clear hs hp hbb hXX hYY
          cases bk
          · simp only [Bool.false_and, Bool.false_eq_true, if_false] at hun
            have HUN := Lib.hid hun
            clear hun
            go_wp2_with fail
            apply Calls.mono
            · with_reducible exact isSquare_any _ (by omega) false HS.out _
            rintro _ w2 ⟨rfl, hb_w2⟩
            have q2 := hb_w2.size
            go_wp2_with fail
            apply Calls.mono
            · with_reducible exact kL _
            rintro _ w3 ⟨x, y, rfl, _, hb_w3⟩
            have q3 := hb_w3.size
            clear kL
            have hB4 := (hB.below hb_w2 (by omega)).below hb_w3 (by omega)
            have hR4 := (hR.below hb_w2 (by omega)).below hb_w3 (by omega)
            have c1 : w3.cell? ⟨w1.heap.size, 0, none⟩ = some (.int .i64 X) := hB4.cell 0
            have c2 : w3.cell? ⟨w1.heap.size, 1, none⟩ = some (.int .i64 Y) := hB4.cell 1
            have c3 : w3.frozen? ⟨w1.heap.size, 0, none⟩ = false := hB4.frozen 0
            have c4 : w3.frozen? ⟨w1.heap.size, 1, none⟩ = false := hB4.frozen 1
            have z1 : w1.heap.size < w3.heap.size := by omega
            have z2 : w1.heap.size ≠ w3.heap.size := by omega
            have bel3 : Below w1.heap.size w1 w3 := bthen (bthen hbw hb_w2 (by omega)) hb_w3 (by omega)
            go_wp2
            go_roundg (gk - 1)
            case measure => omega
            case rel =>
              refine ⟨t + 1, by omega, by omega, by go_num, ?_, ?_, hR4.alloc _, bel3.alloc (by omega) _⟩
              · rw [HUN.out, HBB.out]
              · rw [HUN.out, HXX.out, HYY.out]; exact hB4.alloc _
          · simp only [Bool.true_and] at hun
            by_cases hgt : X < X'
            · rw [if_pos (by simp [hgt])] at hun
              have HUN := Lib.hid hun
              clear hun
              go_wp2_with fail
              apply Calls.mono
              · with_reducible exact isSquare_any _ (by omega) false HS.out _
              rintro _ w2 ⟨rfl, hb_w2⟩
              have q2 := hb_w2.size
              go_wp2_with fail
              apply Calls.mono
              · with_reducible exact kL _
              rintro _ w3 ⟨x, y, rfl, hxy, hb_w3⟩
              obtain ⟨rfl, rfl⟩ := hxy trivial
              have q3 := hb_w3.size
              clear kL
              have hB4 := (hB.below hb_w2 (by omega)).below hb_w3 (by omega)
              have hR4 := (hR.below hb_w2 (by omega)).below hb_w3 (by omega)
              have c1 : w3.cell? ⟨w1.heap.size, 0, none⟩ = some (.int .i64 X) := hB4.cell 0
              have c2 : w3.cell? ⟨w1.heap.size, 1, none⟩ = some (.int .i64 Y) := hB4.cell 1
              have c3 : w3.frozen? ⟨w1.heap.size, 0, none⟩ = false := hB4.frozen 0
              have c4 : w3.frozen? ⟨w1.heap.size, 1, none⟩ = false := hB4.frozen 1
              have z1 : w1.heap.size < w3.heap.size := by omega
              have z2 : w1.heap.size ≠ w3.heap.size := by omega
              have bel3 : Below w1.heap.size w1 w3 := bthen (bthen hbw hb_w2 (by omega)) hb_w3 (by omega)
              go_wp2_with fail
              go_region
              go_wp2
              go_roundg (gk - 1)
              case measure => omega
              case rel =>
                refine ⟨t + 1, by omega, by omega, by go_num, ?_, ?_, ?_, ?_⟩
                · rw [HUN.out]
                · rw [HUN.out]; first | exact (hB4.set2 _ _).alloc _ | exact ((hB4.set2 _ _).alloc _).drew | exact ((hB4.alloc _).drew).set2 _ _ | exact (hB4.alloc _).set2 _ _
                · have hne : w.heap.size ≠ w1.heap.size := by omega
                  first | exact ((hR4.far (p := ⟨w1.heap.size, 0, none⟩) hne _).far (p := ⟨w1.heap.size, 1, none⟩) hne _).alloc _ | exact (((hR4.far (p := ⟨w1.heap.size, 0, none⟩) hne _).far (p := ⟨w1.heap.size, 1, none⟩) hne _).alloc _).drew
                · repeat' (first | (with_reducible exact Below.refl _ _) | (with_reducible assumption) | (with_reducible refine Below.alloc ?_ ?_ _) | (with_reducible refine Below.drew ?_) | (with_reducible refine bdrewN ?_ _) | (with_reducible refine Below.setCell ?_ ?_ _) | (with_reducible refine bthen ?_ (by assumption) ?_) | go_size)
            · rw [if_neg (by simp; omega)] at hun
              have HUN := Lib.hid hun
              have hng : X' ≤ X := by omega
              have hnd : decide (X < X') = false := by rw [decide_eq_false_iff_not]; omega
              clear hun
              go_wp2_with fail
              apply Calls.mono
              · with_reducible exact isSquare_any _ (by omega) false HS.out _
              rintro _ w2 ⟨rfl, hb_w2⟩
              have q2 := hb_w2.size
              go_wp2_with fail
              apply Calls.mono
              · with_reducible exact kL _
              rintro _ w3 ⟨x, y, rfl, hxy, hb_w3⟩
              obtain ⟨rfl, rfl⟩ := hxy trivial
              have q3 := hb_w3.size
              clear kL
              have hB4 := (hB.below hb_w2 (by omega)).below hb_w3 (by omega)
              have hR4 := (hR.below hb_w2 (by omega)).below hb_w3 (by omega)
              have c1 : w3.cell? ⟨w1.heap.size, 0, none⟩ = some (.int .i64 X) := hB4.cell 0
              have c2 : w3.cell? ⟨w1.heap.size, 1, none⟩ = some (.int .i64 Y) := hB4.cell 1
              have c3 : w3.frozen? ⟨w1.heap.size, 0, none⟩ = false := hB4.frozen 0
              have c4 : w3.frozen? ⟨w1.heap.size, 1, none⟩ = false := hB4.frozen 1
              have z1 : w1.heap.size < w3.heap.size := by omega
              have z2 : w1.heap.size ≠ w3.heap.size := by omega
              have bel3 : Below w1.heap.size w1 w3 := bthen (bthen hbw hb_w2 (by omega)) hb_w3 (by omega)
              go_wp2
              go_roundg (gk - 1)
              case measure => omega
              case rel =>
                refine ⟨t + 1, by omega, by omega, by go_num, ?_, ?_, hR4.alloc _, bel3.alloc (by omega) _⟩
                · rw [HUN.out, HBB.out]
                · rw [HUN.out, HXX.out, HYY.out]; exact hB4.alloc _
        · rw [hs] at hun
          simp only [if_true] at hun
          have HUN := Lib.hid hun
          have HS := Lib.hid hs
          generalize hbb : (hpF t).1 = bb at *
          have HBB := Lib.hid hbb
          clear hun hs hbb
          go_wp2_with fail
          apply Calls.mono
          · with_reducible exact isSquare_any _ (by omega) true HS.out _
          rintro _ w2 ⟨rfl, hb_w2⟩
          go_wp2
          go_roundg (gk - 1)
          case measure => omega
          case rel =>
            refine ⟨t + 1, by omega, by omega, by go_num, ?_, ?_, hR.below hb_w2 (by omega), bthen hbw hb_w2 (by omega)⟩
            · rw [HUN.out, HBB.out]
            · rw [HUN.out]; exact hB.below hb_w2 lB
      · obtain rfl : t = N := by omega
        have e := HR.out
        obtain ⟨rfl, rfl, rfl⟩ : (hpF t).1 = r1 ∧ (hpF t).2.1 = r2 ∧ (hpF t).2.2 = r3 := by rw [e]; exact ⟨rfl, rfl, rfl⟩
        clear e HR
        generalize (hpF t).1 = bb at *
        generalize (hpF t).2.1 = X at *
        generalize (hpF t).2.2 = Y at *
        have c1 : wr.cell? ⟨w1.heap.size, 0, none⟩ = some (.int .i64 X) := hB.cell 0
        have c2 : wr.cell? ⟨w1.heap.size, 1, none⟩ = some (.int .i64 Y) := hB.cell 1
        have c3 : wr.cell? ⟨w.heap.size, 0, none⟩ = some (.int .i64 0) := hR.cell 0
        have c4 : wr.cell? ⟨w.heap.size, 1, none⟩ = some (.int .i64 0) := hR.cell 1
        have c5 : wr.frozen? ⟨w.heap.size, 0, none⟩ = false := hR.frozen 0
        have c6 : wr.frozen? ⟨w.heap.size, 1, none⟩ = false := hR.frozen 1
        have z1 : w.heap.size < wr.heap.size := by omega
        have z2 : w.heap.size ≠ w1.heap.size := by omega
        have bel5 := bthen bel1 hbw (by omega)
        clear bel1 hb_w1 hbw hc_w1 hf_w1
        go_wp2_with fail
        go_region
        all_goals go_wp2
        all_goals
          refine bodyPost_ret (by simp [results, Tryd.results19, go_sem, *]; try rfl) rfl ?_
          refine ⟨by first | rfl | simp, ?_⟩
          repeat' (first | (with_reducible exact Below.refl _ _) | (with_reducible assumption) | (with_reducible refine Below.alloc ?_ ?_ _) | (with_reducible refine Below.drew ?_) | (with_reducible refine bdrewN ?_ _) | (with_reducible refine Below.setCell ?_ ?_ _) | (with_reducible refine bthen ?_ (by assumption) ?_) | go_size)
end Go.Proofs.YtibbokllongomaaDoor
