/-
  Making a surd, both packages.
-/
import Derived.Test.YtghdkgbhgnnckaaSurd
import Derived.Test.YtghdkgbhgnnckaaFrac
namespace Go.Proofs.Ytghdkgbhgnnckaa
open Go.RowKit

def mkT (p d q : Int) : Int × Int × Int := if (d - p * p).tmod q = 0 then (p, d, q) else (p * (q.natAbs : Int), d * (q.natAbs : Int) * (q.natAbs : Int), q * (q.natAbs : Int))
def mkM (p d q : Int) : (Int × Int × Int) × Int :=
  if inB p (-1000000) 1000000 && inB q (-1000000) 1000000 && inB d 0 1000000 && (q != 0) then
    if sqB d then ((0, 0, 0), 6)
    else if okS (mkT p d q).1 (mkT p d q).2.1 (mkT p d q).2.2 then (mkT p d q, 0) else ((0, 0, 0), 5)
  else ((0, 0, 0), 2)
theorem sq_two {d : Int} (h : 0 ≤ d) (h2 : sqB d = false) : 2 ≤ d := by
  have : d ≠ 0 := by intro e; subst e; revert h2; decide
  have : d ≠ 1 := by intro e; subst e; revert h2; decide
  omega
theorem ok_root {p d q : Int} (h : ¬ d ≤ 1000000) : okS p d q = false := by
  have : inB d 2 1000000 = false := inB_not.2 (by omega)
  simp [okS, this]
theorem mk_facts {p d q A : Int} (hA : A = (q.natAbs : Int)) (p0 : -1000000 ≤ p) (p1 : p ≤ 1000000) (q0 : -1000000 ≤ q) (q1 : q ≤ 1000000) (d0 : 0 ≤ d) (d1 : d ≤ 1000000) (hq : q ≠ 0) :
    (1 ≤ A ∧ A ≤ 1000000) ∧ (-1000000000000 ≤ p * A ∧ p * A ≤ 1000000000000) ∧ (-1000000000000 ≤ d * q ∧ d * q ≤ 1000000000000) ∧ (0 ≤ d * A ∧ d * A ≤ 1000000000000) ∧ (0 ≤ d * A * A ∧ d * A * A ≤ 1000000000000000000) ∧ (-1000000000000 ≤ q * A ∧ q * A ≤ 1000000000000) ∧ d * q * q = d * A * A ∧ (0 ≤ p * p ∧ p * p ≤ 1000000000000) := by
  have hA1 : 1 ≤ A := by omega
  have hA2 : A ≤ 1000000 := by omega
  have a1 := @mul_bd p A 1000000 1000000 (by omega) (by omega) (by omega) (by omega)
  have a2 := @mul_bd d q 1000000 1000000 (by omega) (by omega) (by omega) (by omega)
  have a3 := @mul_bd d A 1000000 1000000 (by omega) (by omega) (by omega) (by omega)
  have a4 := Int.mul_nonneg d0 (show 0 ≤ A by omega)
  have a5 := Int.mul_nonneg a4 (show 0 ≤ A by omega)
  have a6 := @mul_bd (d * A) A 1000000000000 1000000 (by omega) (by omega) (by omega) (by omega)
  have a7 := @mul_bd q A 1000000 1000000 (by omega) (by omega) (by omega) (by omega)
  have a8 := sq6 (p := p) (inB_iff.2 ⟨p0, p1⟩)
  refine ⟨⟨hA1, hA2⟩, ⟨by omega, by omega⟩, ⟨by omega, by omega⟩, ⟨a4, by omega⟩, ⟨a5, by omega⟩, ⟨by omega, by omega⟩, ?_, a8⟩
  rw [Int.mul_assoc, Int.mul_assoc, hA]
  congr 1
  rw [← Int.natAbs_mul_self]; rfl
theorem mk_big {d A : Int} (hd : 2 ≤ d) (h1 : 1 ≤ A) (h : A > (1000000 : Int).tdiv A) : ¬ d * A * A ≤ 1000000 := by
  rw [Int.tdiv_eq_ediv_of_nonneg (by omega)] at h
  have h2 : 1000000 < A * A := Int.lt_mul_of_ediv_lt (by omega) h
  have h3 : 2 * (A * A) ≤ d * (A * A) := Int.mul_le_mul_of_nonneg_right hd (by omega)
  rw [Int.mul_assoc]
  omega
set_option maxHeartbeats 4000000 in
theorem makeSurdI_any (p d q : Int) (w : World) : Calls Try.prog 30 #[.int .i64 p, .int .i64 d, .int .i64 q] w (Ret w (.tuple #[.agg #[.int .i64 (mkM p d q).1.1, .int .i64 (mkM p d q).1.2.1, .int .i64 (mkM p d q).1.2.2], .int .i64 (mkM p d q).2])) := by
  cases hp : inB p (-1000000) 1000000
  · have e : mkM p d q = ((0, 0, 0), 2) := by simp [mkM, hp]
    rw [e]; clear e
    have HP := Lib.hid hp
    clear hp
    go_enter Try.func30, Try.ntmps30
    go_wp2_with fail
    apply Calls.mono
    · with_reducible exact within_any _ _ _ false HP.out _
    rintro _ w1 ⟨rfl, hb_w1⟩
    obtain ⟨hc_w1, hf_w1, hs_w1⟩ := bcell hb_w1
    try simp at hs_w1
    have hz_w1_w0 : w.heap.size < w1.heap.size := by omega
    have hy_w1_w0 : w.heap.size ≤ w1.heap.size := by omega
    have hx_w1_w0 : ∀ n : Nat, w.heap.size < w1.heap.size + n := by intro n; omega
    have hv_w1_w0 : ∀ n : Nat, w.heap.size ≤ w1.heap.size + n := by intro n; omega
    go_wp2
    refine bodyPost_ret (by simp [results, Try.results30, go_sem, *]; try rfl) rfl ?_
    refine ⟨by first | rfl | simp, ?_⟩
    repeat' (first | (with_reducible exact Below.refl _ _) | (with_reducible assumption) | (with_reducible refine Below.alloc ?_ ?_ _) | (with_reducible refine Below.drew ?_) | (with_reducible refine bdrewN ?_ _) | (with_reducible refine Below.setCell ?_ ?_ _) | (with_reducible refine bthen ?_ (by assumption) ?_) | go_size)
  · have bhp := inB_iff.1 hp
    cases hq : inB q (-1000000) 1000000
    · have e : mkM p d q = ((0, 0, 0), 2) := by simp [mkM, hp, hq]
      rw [e]; clear e
      have HP := Lib.hid hp
      have HQ := Lib.hid hq
      clear hp hq
      go_enter Try.func30, Try.ntmps30
      go_wp2_with fail
      apply Calls.mono
      · with_reducible exact within_any _ _ _ true HP.out _
      rintro _ w1 ⟨rfl, hb_w1⟩
      obtain ⟨hc_w1, hf_w1, hs_w1⟩ := bcell hb_w1
      try simp at hs_w1
      have hz_w1_w0 : w.heap.size < w1.heap.size := by omega
      have hy_w1_w0 : w.heap.size ≤ w1.heap.size := by omega
      have hx_w1_w0 : ∀ n : Nat, w.heap.size < w1.heap.size + n := by intro n; omega
      have hv_w1_w0 : ∀ n : Nat, w.heap.size ≤ w1.heap.size + n := by intro n; omega
      go_wp2_with fail
      apply Calls.mono
      · with_reducible exact within_any _ _ _ false HQ.out _
      rintro _ w2 ⟨rfl, hb_w2⟩
      obtain ⟨hc_w2, hf_w2, hs_w2⟩ := bcell hb_w2
      try simp at hs_w2
      have hz_w2_w0 : w.heap.size < w2.heap.size := by omega
      have hy_w2_w0 : w.heap.size ≤ w2.heap.size := by omega
      have hx_w2_w0 : ∀ n : Nat, w.heap.size < w2.heap.size + n := by intro n; omega
      have hv_w2_w0 : ∀ n : Nat, w.heap.size ≤ w2.heap.size + n := by intro n; omega
      go_wp2
      refine bodyPost_ret (by simp [results, Try.results30, go_sem, *]; try rfl) rfl ?_
      refine ⟨by first | rfl | simp, ?_⟩
      repeat' (first | (with_reducible exact Below.refl _ _) | (with_reducible assumption) | (with_reducible refine Below.alloc ?_ ?_ _) | (with_reducible refine Below.drew ?_) | (with_reducible refine bdrewN ?_ _) | (with_reducible refine Below.setCell ?_ ?_ _) | (with_reducible refine bthen ?_ (by assumption) ?_) | go_size)
    · have bhq := inB_iff.1 hq
      cases hd : inB d 0 1000000
      · have e : mkM p d q = ((0, 0, 0), 2) := by simp [mkM, hp, hq, hd]
        rw [e]; clear e
        have HP := Lib.hid hp
        have HQ := Lib.hid hq
        have HD := Lib.hid hd
        clear hp hq hd
        go_enter Try.func30, Try.ntmps30
        go_wp2_with fail
        apply Calls.mono
        · with_reducible exact within_any _ _ _ true HP.out _
        rintro _ w1 ⟨rfl, hb_w1⟩
        obtain ⟨hc_w1, hf_w1, hs_w1⟩ := bcell hb_w1
        try simp at hs_w1
        have hz_w1_w0 : w.heap.size < w1.heap.size := by omega
        have hy_w1_w0 : w.heap.size ≤ w1.heap.size := by omega
        have hx_w1_w0 : ∀ n : Nat, w.heap.size < w1.heap.size + n := by intro n; omega
        have hv_w1_w0 : ∀ n : Nat, w.heap.size ≤ w1.heap.size + n := by intro n; omega
        go_wp2_with fail
        apply Calls.mono
        · with_reducible exact within_any _ _ _ true HQ.out _
        rintro _ w2 ⟨rfl, hb_w2⟩
        obtain ⟨hc_w2, hf_w2, hs_w2⟩ := bcell hb_w2
        try simp at hs_w2
        have hz_w2_w0 : w.heap.size < w2.heap.size := by omega
        have hy_w2_w0 : w.heap.size ≤ w2.heap.size := by omega
        have hx_w2_w0 : ∀ n : Nat, w.heap.size < w2.heap.size + n := by intro n; omega
        have hv_w2_w0 : ∀ n : Nat, w.heap.size ≤ w2.heap.size + n := by intro n; omega
        go_wp2_with fail
        apply Calls.mono
        · with_reducible exact within_any _ _ _ false HD.out _
        rintro _ w3 ⟨rfl, hb_w3⟩
        obtain ⟨hc_w3, hf_w3, hs_w3⟩ := bcell hb_w3
        try simp at hs_w3
        have hz_w3_w0 : w.heap.size < w3.heap.size := by omega
        have hy_w3_w0 : w.heap.size ≤ w3.heap.size := by omega
        have hx_w3_w0 : ∀ n : Nat, w.heap.size < w3.heap.size + n := by intro n; omega
        have hv_w3_w0 : ∀ n : Nat, w.heap.size ≤ w3.heap.size + n := by intro n; omega
        go_wp2
        refine bodyPost_ret (by simp [results, Try.results30, go_sem, *]; try rfl) rfl ?_
        refine ⟨by first | rfl | simp, ?_⟩
        repeat' (first | (with_reducible exact Below.refl _ _) | (with_reducible assumption) | (with_reducible refine Below.alloc ?_ ?_ _) | (with_reducible refine Below.drew ?_) | (with_reducible refine bdrewN ?_ _) | (with_reducible refine Below.setCell ?_ ?_ _) | (with_reducible refine bthen ?_ (by assumption) ?_) | go_size)
      · have bhd := inB_iff.1 hd
        by_cases h0 : q = 0
        · have e : mkM p d q = ((0, 0, 0), 2) := by simp [mkM, hp, hd, h0]
          rw [e]; clear e
          have HP := Lib.hid hp
          have HQ := Lib.hid hq
          have HD := Lib.hid hd
          clear hp hq hd
          subst h0
          go_enter Try.func30, Try.ntmps30
          go_wp2_with fail
          apply Calls.mono
          · with_reducible exact within_any _ _ _ true HP.out _
          rintro _ w1 ⟨rfl, hb_w1⟩
          obtain ⟨hc_w1, hf_w1, hs_w1⟩ := bcell hb_w1
          try simp at hs_w1
          have hz_w1_w0 : w.heap.size < w1.heap.size := by omega
          have hy_w1_w0 : w.heap.size ≤ w1.heap.size := by omega
          have hx_w1_w0 : ∀ n : Nat, w.heap.size < w1.heap.size + n := by intro n; omega
          have hv_w1_w0 : ∀ n : Nat, w.heap.size ≤ w1.heap.size + n := by intro n; omega
          go_wp2_with fail
          apply Calls.mono
          · with_reducible exact within_any _ _ _ true HQ.out _
          rintro _ w2 ⟨rfl, hb_w2⟩
          obtain ⟨hc_w2, hf_w2, hs_w2⟩ := bcell hb_w2
          try simp at hs_w2
          have hz_w2_w0 : w.heap.size < w2.heap.size := by omega
          have hy_w2_w0 : w.heap.size ≤ w2.heap.size := by omega
          have hx_w2_w0 : ∀ n : Nat, w.heap.size < w2.heap.size + n := by intro n; omega
          have hv_w2_w0 : ∀ n : Nat, w.heap.size ≤ w2.heap.size + n := by intro n; omega
          go_wp2_with fail
          apply Calls.mono
          · with_reducible exact within_any _ _ _ true HD.out _
          rintro _ w3 ⟨rfl, hb_w3⟩
          obtain ⟨hc_w3, hf_w3, hs_w3⟩ := bcell hb_w3
          try simp at hs_w3
          have hz_w3_w0 : w.heap.size < w3.heap.size := by omega
          have hy_w3_w0 : w.heap.size ≤ w3.heap.size := by omega
          have hx_w3_w0 : ∀ n : Nat, w.heap.size < w3.heap.size + n := by intro n; omega
          have hv_w3_w0 : ∀ n : Nat, w.heap.size ≤ w3.heap.size + n := by intro n; omega
          go_wp2
          refine bodyPost_ret (by simp [results, Try.results30, go_sem, *]; try rfl) rfl ?_
          refine ⟨by first | rfl | simp, ?_⟩
          repeat' (first | (with_reducible exact Below.refl _ _) | (with_reducible assumption) | (with_reducible refine Below.alloc ?_ ?_ _) | (with_reducible refine Below.drew ?_) | (with_reducible refine bdrewN ?_ _) | (with_reducible refine Below.setCell ?_ ?_ _) | (with_reducible refine bthen ?_ (by assumption) ?_) | go_size)
        · have e0 : (q != 0) = true := by simp [h0]
          have e1 : (q == 0) = false := by simp [h0]
          cases hs : sqB d
          rotate_left
          · have e : mkM p d q = ((0, 0, 0), 6) := by simp [mkM, hp, hq, hd, hs, e0]
            rw [e]; clear e
            have HP := Lib.hid hp
            have HQ := Lib.hid hq
            have HD := Lib.hid hd
            have HS := Lib.hid hs
            clear hp hq hd hs
            go_enter Try.func30, Try.ntmps30
            go_wp2_with fail
            apply Calls.mono
            · with_reducible exact within_any _ _ _ true HP.out _
            rintro _ w1 ⟨rfl, hb_w1⟩
            obtain ⟨hc_w1, hf_w1, hs_w1⟩ := bcell hb_w1
            try simp at hs_w1
            have hz_w1_w0 : w.heap.size < w1.heap.size := by omega
            have hy_w1_w0 : w.heap.size ≤ w1.heap.size := by omega
            have hx_w1_w0 : ∀ n : Nat, w.heap.size < w1.heap.size + n := by intro n; omega
            have hv_w1_w0 : ∀ n : Nat, w.heap.size ≤ w1.heap.size + n := by intro n; omega
            go_wp2_with fail
            apply Calls.mono
            · with_reducible exact within_any _ _ _ true HQ.out _
            rintro _ w2 ⟨rfl, hb_w2⟩
            obtain ⟨hc_w2, hf_w2, hs_w2⟩ := bcell hb_w2
            try simp at hs_w2
            have hz_w2_w0 : w.heap.size < w2.heap.size := by omega
            have hy_w2_w0 : w.heap.size ≤ w2.heap.size := by omega
            have hx_w2_w0 : ∀ n : Nat, w.heap.size < w2.heap.size + n := by intro n; omega
            have hv_w2_w0 : ∀ n : Nat, w.heap.size ≤ w2.heap.size + n := by intro n; omega
            go_wp2_with fail
            apply Calls.mono
            · with_reducible exact within_any _ _ _ true HD.out _
            rintro _ w3 ⟨rfl, hb_w3⟩
            obtain ⟨hc_w3, hf_w3, hs_w3⟩ := bcell hb_w3
            try simp at hs_w3
            have hz_w3_w0 : w.heap.size < w3.heap.size := by omega
            have hy_w3_w0 : w.heap.size ≤ w3.heap.size := by omega
            have hx_w3_w0 : ∀ n : Nat, w.heap.size < w3.heap.size + n := by intro n; omega
            have hv_w3_w0 : ∀ n : Nat, w.heap.size ≤ w3.heap.size + n := by intro n; omega
            go_wp2_with fail
            apply Calls.mono
            · with_reducible exact isSquare_any _ (by omega) true HS.out _
            rintro _ w4 ⟨rfl, hb_w4⟩
            obtain ⟨hc_w4, hf_w4, hs_w4⟩ := bcell hb_w4
            try simp at hs_w4
            have hz_w4_w0 : w.heap.size < w4.heap.size := by omega
            have hy_w4_w0 : w.heap.size ≤ w4.heap.size := by omega
            have hx_w4_w0 : ∀ n : Nat, w.heap.size < w4.heap.size + n := by intro n; omega
            have hv_w4_w0 : ∀ n : Nat, w.heap.size ≤ w4.heap.size + n := by intro n; omega
            go_wp2
            refine bodyPost_ret (by simp [results, Try.results30, go_sem, *]; try rfl) rfl ?_
            refine ⟨by first | rfl | simp, ?_⟩
            repeat' (first | (with_reducible exact Below.refl _ _) | (with_reducible assumption) | (with_reducible refine Below.alloc ?_ ?_ _) | (with_reducible refine Below.drew ?_) | (with_reducible refine bdrewN ?_ _) | (with_reducible refine Below.setCell ?_ ?_ _) | (with_reducible refine bthen ?_ (by assumption) ?_) | go_size)
          · have hd2 := sq_two bhd.1 hs
            obtain ⟨A, hA⟩ : ∃ A : Int, A = (q.natAbs : Int) := ⟨_, rfl⟩
            obtain ⟨⟨f1, f2⟩, ⟨f3, f4⟩, ⟨f5, f6⟩, ⟨f7, f8⟩, ⟨f9, f10⟩, ⟨f11, f12⟩, f13, f14, f15⟩ := mk_facts hA bhp.1 bhp.2 bhq.1 bhq.2 bhd.1 bhd.2 h0
            have kA : ∀ w, Calls Try.prog 61 #[.int .i64 q] w (Ret w (.int .i64 A)) := fun w => by rw [hA]; exact abs_any q (by omega) (by omega) w
            by_cases hr : (d - p * p).tmod q = 0
            · have hT : mkT p d q = (p, d, q) := by unfold mkT; rw [if_pos hr]
              clear kA hA f13
              cases ho : okS p d q
              · have e : mkM p d q = ((0, 0, 0), 5) := by simp [mkM, hp, hq, hd, hs, e0, hT, ho]
                rw [e]; clear e
                have HP := Lib.hid hp
                have HQ := Lib.hid hq
                have HD := Lib.hid hd
                have HS := Lib.hid hs
                clear hp hq hd hs
                have HO := Lib.hid ho
                clear ho hT
                go_enter Try.func30, Try.ntmps30
                go_wp2_with fail
                apply Calls.mono
                · with_reducible exact within_any _ _ _ true HP.out _
                rintro _ w1 ⟨rfl, hb_w1⟩
                obtain ⟨hc_w1, hf_w1, hs_w1⟩ := bcell hb_w1
                try simp at hs_w1
                have hz_w1_w0 : w.heap.size < w1.heap.size := by omega
                have hy_w1_w0 : w.heap.size ≤ w1.heap.size := by omega
                have hx_w1_w0 : ∀ n : Nat, w.heap.size < w1.heap.size + n := by intro n; omega
                have hv_w1_w0 : ∀ n : Nat, w.heap.size ≤ w1.heap.size + n := by intro n; omega
                go_wp2_with fail
                apply Calls.mono
                · with_reducible exact within_any _ _ _ true HQ.out _
                rintro _ w2 ⟨rfl, hb_w2⟩
                obtain ⟨hc_w2, hf_w2, hs_w2⟩ := bcell hb_w2
                try simp at hs_w2
                have hz_w2_w0 : w.heap.size < w2.heap.size := by omega
                have hy_w2_w0 : w.heap.size ≤ w2.heap.size := by omega
                have hx_w2_w0 : ∀ n : Nat, w.heap.size < w2.heap.size + n := by intro n; omega
                have hv_w2_w0 : ∀ n : Nat, w.heap.size ≤ w2.heap.size + n := by intro n; omega
                go_wp2_with fail
                apply Calls.mono
                · with_reducible exact within_any _ _ _ true HD.out _
                rintro _ w3 ⟨rfl, hb_w3⟩
                obtain ⟨hc_w3, hf_w3, hs_w3⟩ := bcell hb_w3
                try simp at hs_w3
                have hz_w3_w0 : w.heap.size < w3.heap.size := by omega
                have hy_w3_w0 : w.heap.size ≤ w3.heap.size := by omega
                have hx_w3_w0 : ∀ n : Nat, w.heap.size < w3.heap.size + n := by intro n; omega
                have hv_w3_w0 : ∀ n : Nat, w.heap.size ≤ w3.heap.size + n := by intro n; omega
                go_wp2_with fail
                apply Calls.mono
                · with_reducible exact isSquare_any _ (by omega) false HS.out _
                rintro _ w4 ⟨rfl, hb_w4⟩
                obtain ⟨hc_w4, hf_w4, hs_w4⟩ := bcell hb_w4
                try simp at hs_w4
                have hz_w4_w0 : w.heap.size < w4.heap.size := by omega
                have hy_w4_w0 : w.heap.size ≤ w4.heap.size := by omega
                have hx_w4_w0 : ∀ n : Nat, w.heap.size < w4.heap.size + n := by intro n; omega
                have hv_w4_w0 : ∀ n : Nat, w.heap.size ≤ w4.heap.size + n := by intro n; omega
                go_wp2_with fail
                apply Calls.mono
                · with_reducible exact validSurd_any _ _ _ false HO.out _
                rintro _ w5 ⟨rfl, hb_w5⟩
                obtain ⟨hc_w5, hf_w5, hs_w5⟩ := bcell hb_w5
                try simp at hs_w5
                have hz_w5_w0 : w.heap.size < w5.heap.size := by omega
                have hy_w5_w0 : w.heap.size ≤ w5.heap.size := by omega
                have hx_w5_w0 : ∀ n : Nat, w.heap.size < w5.heap.size + n := by intro n; omega
                have hv_w5_w0 : ∀ n : Nat, w.heap.size ≤ w5.heap.size + n := by intro n; omega
                have hz_w5_w40 : w4.heap.size < w5.heap.size := by omega
                have hy_w5_w40 : w4.heap.size ≤ w5.heap.size := by omega
                have hx_w5_w40 : ∀ n : Nat, w4.heap.size < w5.heap.size + n := by intro n; omega
                have hv_w5_w40 : ∀ n : Nat, w4.heap.size ≤ w5.heap.size + n := by intro n; omega
                go_wp2
                refine bodyPost_ret (by simp [results, Try.results30, go_sem, *]; try rfl) rfl ?_
                refine ⟨by first | rfl | simp, ?_⟩
                repeat' (first | (with_reducible exact Below.refl _ _) | (with_reducible assumption) | (with_reducible refine Below.alloc ?_ ?_ _) | (with_reducible refine Below.drew ?_) | (with_reducible refine bdrewN ?_ _) | (with_reducible refine Below.setCell ?_ ?_ _) | (with_reducible refine bthen ?_ (by assumption) ?_) | go_size)
              · have e : mkM p d q = ((p, d, q), 0) := by simp [mkM, hp, hq, hd, hs, e0, hT, ho]
                rw [e]; clear e
                have HP := Lib.hid hp
                have HQ := Lib.hid hq
                have HD := Lib.hid hd
                have HS := Lib.hid hs
                clear hp hq hd hs
                have HO := Lib.hid ho
                clear ho hT
                go_enter Try.func30, Try.ntmps30
                go_wp2_with fail
                apply Calls.mono
                · with_reducible exact within_any _ _ _ true HP.out _
                rintro _ w1 ⟨rfl, hb_w1⟩
                obtain ⟨hc_w1, hf_w1, hs_w1⟩ := bcell hb_w1
                try simp at hs_w1
                have hz_w1_w0 : w.heap.size < w1.heap.size := by omega
                have hy_w1_w0 : w.heap.size ≤ w1.heap.size := by omega
                have hx_w1_w0 : ∀ n : Nat, w.heap.size < w1.heap.size + n := by intro n; omega
                have hv_w1_w0 : ∀ n : Nat, w.heap.size ≤ w1.heap.size + n := by intro n; omega
                go_wp2_with fail
                apply Calls.mono
                · with_reducible exact within_any _ _ _ true HQ.out _
                rintro _ w2 ⟨rfl, hb_w2⟩
                obtain ⟨hc_w2, hf_w2, hs_w2⟩ := bcell hb_w2
                try simp at hs_w2
                have hz_w2_w0 : w.heap.size < w2.heap.size := by omega
                have hy_w2_w0 : w.heap.size ≤ w2.heap.size := by omega
                have hx_w2_w0 : ∀ n : Nat, w.heap.size < w2.heap.size + n := by intro n; omega
                have hv_w2_w0 : ∀ n : Nat, w.heap.size ≤ w2.heap.size + n := by intro n; omega
                go_wp2_with fail
                apply Calls.mono
                · with_reducible exact within_any _ _ _ true HD.out _
                rintro _ w3 ⟨rfl, hb_w3⟩
                obtain ⟨hc_w3, hf_w3, hs_w3⟩ := bcell hb_w3
                try simp at hs_w3
                have hz_w3_w0 : w.heap.size < w3.heap.size := by omega
                have hy_w3_w0 : w.heap.size ≤ w3.heap.size := by omega
                have hx_w3_w0 : ∀ n : Nat, w.heap.size < w3.heap.size + n := by intro n; omega
                have hv_w3_w0 : ∀ n : Nat, w.heap.size ≤ w3.heap.size + n := by intro n; omega
                go_wp2_with fail
                apply Calls.mono
                · with_reducible exact isSquare_any _ (by omega) false HS.out _
                rintro _ w4 ⟨rfl, hb_w4⟩
                obtain ⟨hc_w4, hf_w4, hs_w4⟩ := bcell hb_w4
                try simp at hs_w4
                have hz_w4_w0 : w.heap.size < w4.heap.size := by omega
                have hy_w4_w0 : w.heap.size ≤ w4.heap.size := by omega
                have hx_w4_w0 : ∀ n : Nat, w.heap.size < w4.heap.size + n := by intro n; omega
                have hv_w4_w0 : ∀ n : Nat, w.heap.size ≤ w4.heap.size + n := by intro n; omega
                go_wp2_with fail
                apply Calls.mono
                · with_reducible exact validSurd_any _ _ _ true HO.out _
                rintro _ w5 ⟨rfl, hb_w5⟩
                obtain ⟨hc_w5, hf_w5, hs_w5⟩ := bcell hb_w5
                try simp at hs_w5
                have hz_w5_w0 : w.heap.size < w5.heap.size := by omega
                have hy_w5_w0 : w.heap.size ≤ w5.heap.size := by omega
                have hx_w5_w0 : ∀ n : Nat, w.heap.size < w5.heap.size + n := by intro n; omega
                have hv_w5_w0 : ∀ n : Nat, w.heap.size ≤ w5.heap.size + n := by intro n; omega
                have hz_w5_w40 : w4.heap.size < w5.heap.size := by omega
                have hy_w5_w40 : w4.heap.size ≤ w5.heap.size := by omega
                have hx_w5_w40 : ∀ n : Nat, w4.heap.size < w5.heap.size + n := by intro n; omega
                have hv_w5_w40 : ∀ n : Nat, w4.heap.size ≤ w5.heap.size + n := by intro n; omega
                go_wp2
                refine bodyPost_ret (by simp [results, Try.results30, go_sem, *]; try rfl) rfl ?_
                refine ⟨by first | rfl | simp, ?_⟩
                repeat' (first | (with_reducible exact Below.refl _ _) | (with_reducible assumption) | (with_reducible refine Below.alloc ?_ ?_ _) | (with_reducible refine Below.drew ?_) | (with_reducible refine bdrewN ?_ _) | (with_reducible refine Below.setCell ?_ ?_ _) | (with_reducible refine bthen ?_ (by assumption) ?_) | go_size)
            · have hT : mkT p d q = (p * A, d * A * A, q * A) := by unfold mkT; rw [if_neg hr, hA]
              have hrb : ((d - p * p).tmod q != 0) = true := bne_iff_ne.2 hr
              clear hA hr
              cases ho : okS (p * A) (d * A * A) (q * A)
              · have e : mkM p d q = ((0, 0, 0), 5) := by simp [mkM, hp, hq, hd, hs, e0, hT, ho]
                rw [e]; clear e
                have HP := Lib.hid hp
                have HQ := Lib.hid hq
                have HD := Lib.hid hd
                have HS := Lib.hid hs
                clear hp hq hd hs
                have HO := Lib.hid ho
                clear ho hT
                go_enter Try.func30, Try.ntmps30
                go_wp2_with fail
                apply Calls.mono
                · with_reducible exact within_any _ _ _ true HP.out _
                rintro _ w1 ⟨rfl, hb_w1⟩
                obtain ⟨hc_w1, hf_w1, hs_w1⟩ := bcell hb_w1
                try simp at hs_w1
                have hz_w1_w0 : w.heap.size < w1.heap.size := by omega
                have hy_w1_w0 : w.heap.size ≤ w1.heap.size := by omega
                have hx_w1_w0 : ∀ n : Nat, w.heap.size < w1.heap.size + n := by intro n; omega
                have hv_w1_w0 : ∀ n : Nat, w.heap.size ≤ w1.heap.size + n := by intro n; omega
                go_wp2_with fail
                apply Calls.mono
                · with_reducible exact within_any _ _ _ true HQ.out _
                rintro _ w2 ⟨rfl, hb_w2⟩
                obtain ⟨hc_w2, hf_w2, hs_w2⟩ := bcell hb_w2
                try simp at hs_w2
                have hz_w2_w0 : w.heap.size < w2.heap.size := by omega
                have hy_w2_w0 : w.heap.size ≤ w2.heap.size := by omega
                have hx_w2_w0 : ∀ n : Nat, w.heap.size < w2.heap.size + n := by intro n; omega
                have hv_w2_w0 : ∀ n : Nat, w.heap.size ≤ w2.heap.size + n := by intro n; omega
                go_wp2_with fail
                apply Calls.mono
                · with_reducible exact within_any _ _ _ true HD.out _
                rintro _ w3 ⟨rfl, hb_w3⟩
                obtain ⟨hc_w3, hf_w3, hs_w3⟩ := bcell hb_w3
                try simp at hs_w3
                have hz_w3_w0 : w.heap.size < w3.heap.size := by omega
                have hy_w3_w0 : w.heap.size ≤ w3.heap.size := by omega
                have hx_w3_w0 : ∀ n : Nat, w.heap.size < w3.heap.size + n := by intro n; omega
                have hv_w3_w0 : ∀ n : Nat, w.heap.size ≤ w3.heap.size + n := by intro n; omega
                go_wp2_with fail
                apply Calls.mono
                · with_reducible exact isSquare_any _ (by omega) false HS.out _
                rintro _ w4 ⟨rfl, hb_w4⟩
                obtain ⟨hc_w4, hf_w4, hs_w4⟩ := bcell hb_w4
                try simp at hs_w4
                have hz_w4_w0 : w.heap.size < w4.heap.size := by omega
                have hy_w4_w0 : w.heap.size ≤ w4.heap.size := by omega
                have hx_w4_w0 : ∀ n : Nat, w.heap.size < w4.heap.size + n := by intro n; omega
                have hv_w4_w0 : ∀ n : Nat, w.heap.size ≤ w4.heap.size + n := by intro n; omega
                go_wp2_with fail
                apply Calls.mono
                · with_reducible exact kA _
                rintro _ w5 ⟨rfl, hb_w5⟩
                obtain ⟨hc_w5, hf_w5, hs_w5⟩ := bcell hb_w5
                try simp at hs_w5
                have hz_w5_w0 : w.heap.size < w5.heap.size := by omega
                have hy_w5_w0 : w.heap.size ≤ w5.heap.size := by omega
                have hx_w5_w0 : ∀ n : Nat, w.heap.size < w5.heap.size + n := by intro n; omega
                have hv_w5_w0 : ∀ n : Nat, w.heap.size ≤ w5.heap.size + n := by intro n; omega
                have hz_w5_w40 : w4.heap.size < w5.heap.size := by omega
                have hy_w5_w40 : w4.heap.size ≤ w5.heap.size := by omega
                have hx_w5_w40 : ∀ n : Nat, w4.heap.size < w5.heap.size + n := by intro n; omega
                have hv_w5_w40 : ∀ n : Nat, w4.heap.size ≤ w5.heap.size + n := by intro n; omega
                go_wp2_with fail
                apply Calls.mono
                · with_reducible exact kA _
                rintro _ w6 ⟨rfl, hb_w6⟩
                obtain ⟨hc_w6, hf_w6, hs_w6⟩ := bcell hb_w6
                try simp at hs_w6
                have hz_w6_w0 : w.heap.size < w6.heap.size := by omega
                have hy_w6_w0 : w.heap.size ≤ w6.heap.size := by omega
                have hx_w6_w0 : ∀ n : Nat, w.heap.size < w6.heap.size + n := by intro n; omega
                have hv_w6_w0 : ∀ n : Nat, w.heap.size ≤ w6.heap.size + n := by intro n; omega
                have hz_w6_w40 : w4.heap.size < w6.heap.size := by omega
                have hy_w6_w40 : w4.heap.size ≤ w6.heap.size := by omega
                have hx_w6_w40 : ∀ n : Nat, w4.heap.size < w6.heap.size + n := by intro n; omega
                have hv_w6_w40 : ∀ n : Nat, w4.heap.size ≤ w6.heap.size + n := by intro n; omega
                go_wp2_with fail
                apply Calls.mono
                · with_reducible exact validSurd_any _ _ _ false HO.out _
                rintro _ w7 ⟨rfl, hb_w7⟩
                obtain ⟨hc_w7, hf_w7, hs_w7⟩ := bcell hb_w7
                try simp at hs_w7
                have hz_w7_w0 : w.heap.size < w7.heap.size := by omega
                have hy_w7_w0 : w.heap.size ≤ w7.heap.size := by omega
                have hx_w7_w0 : ∀ n : Nat, w.heap.size < w7.heap.size + n := by intro n; omega
                have hv_w7_w0 : ∀ n : Nat, w.heap.size ≤ w7.heap.size + n := by intro n; omega
                have hz_w7_w40 : w4.heap.size < w7.heap.size := by omega
                have hy_w7_w40 : w4.heap.size ≤ w7.heap.size := by omega
                have hx_w7_w40 : ∀ n : Nat, w4.heap.size < w7.heap.size + n := by intro n; omega
                have hv_w7_w40 : ∀ n : Nat, w4.heap.size ≤ w7.heap.size + n := by intro n; omega
                go_wp2
                refine bodyPost_ret (by simp [results, Try.results30, go_sem, *]; try rfl) rfl ?_
                refine ⟨by first | rfl | simp, ?_⟩
                repeat' (first | (with_reducible exact Below.refl _ _) | (with_reducible assumption) | (with_reducible refine Below.alloc ?_ ?_ _) | (with_reducible refine Below.drew ?_) | (with_reducible refine bdrewN ?_ _) | (with_reducible refine Below.setCell ?_ ?_ _) | (with_reducible refine bthen ?_ (by assumption) ?_) | go_size)
              · have e : mkM p d q = ((p * A, d * A * A, q * A), 0) := by simp [mkM, hp, hq, hd, hs, e0, hT, ho]
                rw [e]; clear e
                have HP := Lib.hid hp
                have HQ := Lib.hid hq
                have HD := Lib.hid hd
                have HS := Lib.hid hs
                clear hp hq hd hs
                have HO := Lib.hid ho
                clear ho hT
                go_enter Try.func30, Try.ntmps30
                go_wp2_with fail
                apply Calls.mono
                · with_reducible exact within_any _ _ _ true HP.out _
                rintro _ w1 ⟨rfl, hb_w1⟩
                obtain ⟨hc_w1, hf_w1, hs_w1⟩ := bcell hb_w1
                try simp at hs_w1
                have hz_w1_w0 : w.heap.size < w1.heap.size := by omega
                have hy_w1_w0 : w.heap.size ≤ w1.heap.size := by omega
                have hx_w1_w0 : ∀ n : Nat, w.heap.size < w1.heap.size + n := by intro n; omega
                have hv_w1_w0 : ∀ n : Nat, w.heap.size ≤ w1.heap.size + n := by intro n; omega
                go_wp2_with fail
                apply Calls.mono
                · with_reducible exact within_any _ _ _ true HQ.out _
                rintro _ w2 ⟨rfl, hb_w2⟩
                obtain ⟨hc_w2, hf_w2, hs_w2⟩ := bcell hb_w2
                try simp at hs_w2
                have hz_w2_w0 : w.heap.size < w2.heap.size := by omega
                have hy_w2_w0 : w.heap.size ≤ w2.heap.size := by omega
                have hx_w2_w0 : ∀ n : Nat, w.heap.size < w2.heap.size + n := by intro n; omega
                have hv_w2_w0 : ∀ n : Nat, w.heap.size ≤ w2.heap.size + n := by intro n; omega
                go_wp2_with fail
                apply Calls.mono
                · with_reducible exact within_any _ _ _ true HD.out _
                rintro _ w3 ⟨rfl, hb_w3⟩
                obtain ⟨hc_w3, hf_w3, hs_w3⟩ := bcell hb_w3
                try simp at hs_w3
                have hz_w3_w0 : w.heap.size < w3.heap.size := by omega
                have hy_w3_w0 : w.heap.size ≤ w3.heap.size := by omega
                have hx_w3_w0 : ∀ n : Nat, w.heap.size < w3.heap.size + n := by intro n; omega
                have hv_w3_w0 : ∀ n : Nat, w.heap.size ≤ w3.heap.size + n := by intro n; omega
                go_wp2_with fail
                apply Calls.mono
                · with_reducible exact isSquare_any _ (by omega) false HS.out _
                rintro _ w4 ⟨rfl, hb_w4⟩
                obtain ⟨hc_w4, hf_w4, hs_w4⟩ := bcell hb_w4
                try simp at hs_w4
                have hz_w4_w0 : w.heap.size < w4.heap.size := by omega
                have hy_w4_w0 : w.heap.size ≤ w4.heap.size := by omega
                have hx_w4_w0 : ∀ n : Nat, w.heap.size < w4.heap.size + n := by intro n; omega
                have hv_w4_w0 : ∀ n : Nat, w.heap.size ≤ w4.heap.size + n := by intro n; omega
                go_wp2_with fail
                apply Calls.mono
                · with_reducible exact kA _
                rintro _ w5 ⟨rfl, hb_w5⟩
                obtain ⟨hc_w5, hf_w5, hs_w5⟩ := bcell hb_w5
                try simp at hs_w5
                have hz_w5_w0 : w.heap.size < w5.heap.size := by omega
                have hy_w5_w0 : w.heap.size ≤ w5.heap.size := by omega
                have hx_w5_w0 : ∀ n : Nat, w.heap.size < w5.heap.size + n := by intro n; omega
                have hv_w5_w0 : ∀ n : Nat, w.heap.size ≤ w5.heap.size + n := by intro n; omega
                have hz_w5_w40 : w4.heap.size < w5.heap.size := by omega
                have hy_w5_w40 : w4.heap.size ≤ w5.heap.size := by omega
                have hx_w5_w40 : ∀ n : Nat, w4.heap.size < w5.heap.size + n := by intro n; omega
                have hv_w5_w40 : ∀ n : Nat, w4.heap.size ≤ w5.heap.size + n := by intro n; omega
                go_wp2_with fail
                apply Calls.mono
                · with_reducible exact kA _
                rintro _ w6 ⟨rfl, hb_w6⟩
                obtain ⟨hc_w6, hf_w6, hs_w6⟩ := bcell hb_w6
                try simp at hs_w6
                have hz_w6_w0 : w.heap.size < w6.heap.size := by omega
                have hy_w6_w0 : w.heap.size ≤ w6.heap.size := by omega
                have hx_w6_w0 : ∀ n : Nat, w.heap.size < w6.heap.size + n := by intro n; omega
                have hv_w6_w0 : ∀ n : Nat, w.heap.size ≤ w6.heap.size + n := by intro n; omega
                have hz_w6_w40 : w4.heap.size < w6.heap.size := by omega
                have hy_w6_w40 : w4.heap.size ≤ w6.heap.size := by omega
                have hx_w6_w40 : ∀ n : Nat, w4.heap.size < w6.heap.size + n := by intro n; omega
                have hv_w6_w40 : ∀ n : Nat, w4.heap.size ≤ w6.heap.size + n := by intro n; omega
                go_wp2_with fail
                apply Calls.mono
                · with_reducible exact validSurd_any _ _ _ true HO.out _
                rintro _ w7 ⟨rfl, hb_w7⟩
                obtain ⟨hc_w7, hf_w7, hs_w7⟩ := bcell hb_w7
                try simp at hs_w7
                have hz_w7_w0 : w.heap.size < w7.heap.size := by omega
                have hy_w7_w0 : w.heap.size ≤ w7.heap.size := by omega
                have hx_w7_w0 : ∀ n : Nat, w.heap.size < w7.heap.size + n := by intro n; omega
                have hv_w7_w0 : ∀ n : Nat, w.heap.size ≤ w7.heap.size + n := by intro n; omega
                have hz_w7_w40 : w4.heap.size < w7.heap.size := by omega
                have hy_w7_w40 : w4.heap.size ≤ w7.heap.size := by omega
                have hx_w7_w40 : ∀ n : Nat, w4.heap.size < w7.heap.size + n := by intro n; omega
                have hv_w7_w40 : ∀ n : Nat, w4.heap.size ≤ w7.heap.size + n := by intro n; omega
                go_wp2
                refine bodyPost_ret (by simp [results, Try.results30, go_sem, *]; try rfl) rfl ?_
                refine ⟨by first | rfl | simp, ?_⟩
                repeat' (first | (with_reducible exact Below.refl _ _) | (with_reducible assumption) | (with_reducible refine Below.alloc ?_ ?_ _) | (with_reducible refine Below.drew ?_) | (with_reducible refine bdrewN ?_ _) | (with_reducible refine Below.setCell ?_ ?_ _) | (with_reducible refine bthen ?_ (by assumption) ?_) | go_size)
set_option maxHeartbeats 4000000 in
theorem makeSurdS_any (p d q : Int) (w : World) : Calls Try.prog 29 #[.int .i64 p, .int .i64 d, .int .i64 q] w (Ret w (.tuple #[.agg #[.int .i64 (mkM p d q).1.1, .int .i64 (mkM p d q).1.2.1, .int .i64 (mkM p d q).1.2.2], .int .i64 (mkM p d q).2])) := by
  cases hp : inB p (-1000000) 1000000
  · have e : mkM p d q = ((0, 0, 0), 2) := by simp [mkM, hp]
    rw [e]; clear e
    have HP := Lib.hid hp
    clear hp
    go_enter Try.func29, Try.ntmps29
    go_wp2_with fail
    apply Calls.mono
    · with_reducible exact l00In_any _ _ _ false HP.out _
    rintro _ w1 ⟨rfl, hb_w1⟩
    obtain ⟨hc_w1, hf_w1, hs_w1⟩ := bcell hb_w1
    try simp at hs_w1
    have hz_w1_w0 : w.heap.size < w1.heap.size := by omega
    have hy_w1_w0 : w.heap.size ≤ w1.heap.size := by omega
    have hx_w1_w0 : ∀ n : Nat, w.heap.size < w1.heap.size + n := by intro n; omega
    have hv_w1_w0 : ∀ n : Nat, w.heap.size ≤ w1.heap.size + n := by intro n; omega
    go_wp2
    refine bodyPost_ret (by simp [results, Try.results29, go_sem, *]; try rfl) rfl ?_
    refine ⟨by first | rfl | simp, ?_⟩
    repeat' (first | (with_reducible exact Below.refl _ _) | (with_reducible assumption) | (with_reducible refine Below.alloc ?_ ?_ _) | (with_reducible refine Below.drew ?_) | (with_reducible refine bdrewN ?_ _) | (with_reducible refine Below.setCell ?_ ?_ _) | (with_reducible refine bthen ?_ (by assumption) ?_) | go_size)
  · have bhp := inB_iff.1 hp
    cases hq : inB q (-1000000) 1000000
    · have e : mkM p d q = ((0, 0, 0), 2) := by simp [mkM, hp, hq]
      rw [e]; clear e
      have HP := Lib.hid hp
      have HQ := Lib.hid hq
      clear hp hq
      go_enter Try.func29, Try.ntmps29
      go_wp2_with fail
      apply Calls.mono
      · with_reducible exact l00In_any _ _ _ true HP.out _
      rintro _ w1 ⟨rfl, hb_w1⟩
      obtain ⟨hc_w1, hf_w1, hs_w1⟩ := bcell hb_w1
      try simp at hs_w1
      have hz_w1_w0 : w.heap.size < w1.heap.size := by omega
      have hy_w1_w0 : w.heap.size ≤ w1.heap.size := by omega
      have hx_w1_w0 : ∀ n : Nat, w.heap.size < w1.heap.size + n := by intro n; omega
      have hv_w1_w0 : ∀ n : Nat, w.heap.size ≤ w1.heap.size + n := by intro n; omega
      go_wp2_with fail
      apply Calls.mono
      · with_reducible exact l00In_any _ _ _ false HQ.out _
      rintro _ w2 ⟨rfl, hb_w2⟩
      obtain ⟨hc_w2, hf_w2, hs_w2⟩ := bcell hb_w2
      try simp at hs_w2
      have hz_w2_w0 : w.heap.size < w2.heap.size := by omega
      have hy_w2_w0 : w.heap.size ≤ w2.heap.size := by omega
      have hx_w2_w0 : ∀ n : Nat, w.heap.size < w2.heap.size + n := by intro n; omega
      have hv_w2_w0 : ∀ n : Nat, w.heap.size ≤ w2.heap.size + n := by intro n; omega
      go_wp2
      refine bodyPost_ret (by simp [results, Try.results29, go_sem, *]; try rfl) rfl ?_
      refine ⟨by first | rfl | simp, ?_⟩
      repeat' (first | (with_reducible exact Below.refl _ _) | (with_reducible assumption) | (with_reducible refine Below.alloc ?_ ?_ _) | (with_reducible refine Below.drew ?_) | (with_reducible refine bdrewN ?_ _) | (with_reducible refine Below.setCell ?_ ?_ _) | (with_reducible refine bthen ?_ (by assumption) ?_) | go_size)
    · have bhq := inB_iff.1 hq
      cases hd : inB d 0 1000000
      · have e : mkM p d q = ((0, 0, 0), 2) := by simp [mkM, hp, hq, hd]
        rw [e]; clear e
        have HP := Lib.hid hp
        have HQ := Lib.hid hq
        have HD := Lib.hid hd
        clear hp hq hd
        go_enter Try.func29, Try.ntmps29
        go_wp2_with fail
        apply Calls.mono
        · with_reducible exact l00In_any _ _ _ true HP.out _
        rintro _ w1 ⟨rfl, hb_w1⟩
        obtain ⟨hc_w1, hf_w1, hs_w1⟩ := bcell hb_w1
        try simp at hs_w1
        have hz_w1_w0 : w.heap.size < w1.heap.size := by omega
        have hy_w1_w0 : w.heap.size ≤ w1.heap.size := by omega
        have hx_w1_w0 : ∀ n : Nat, w.heap.size < w1.heap.size + n := by intro n; omega
        have hv_w1_w0 : ∀ n : Nat, w.heap.size ≤ w1.heap.size + n := by intro n; omega
        go_wp2_with fail
        apply Calls.mono
        · with_reducible exact l00In_any _ _ _ true HQ.out _
        rintro _ w2 ⟨rfl, hb_w2⟩
        obtain ⟨hc_w2, hf_w2, hs_w2⟩ := bcell hb_w2
        try simp at hs_w2
        have hz_w2_w0 : w.heap.size < w2.heap.size := by omega
        have hy_w2_w0 : w.heap.size ≤ w2.heap.size := by omega
        have hx_w2_w0 : ∀ n : Nat, w.heap.size < w2.heap.size + n := by intro n; omega
        have hv_w2_w0 : ∀ n : Nat, w.heap.size ≤ w2.heap.size + n := by intro n; omega
        go_wp2_with fail
        apply Calls.mono
        · with_reducible exact l00In_any _ _ _ false HD.out _
        rintro _ w3 ⟨rfl, hb_w3⟩
        obtain ⟨hc_w3, hf_w3, hs_w3⟩ := bcell hb_w3
        try simp at hs_w3
        have hz_w3_w0 : w.heap.size < w3.heap.size := by omega
        have hy_w3_w0 : w.heap.size ≤ w3.heap.size := by omega
        have hx_w3_w0 : ∀ n : Nat, w.heap.size < w3.heap.size + n := by intro n; omega
        have hv_w3_w0 : ∀ n : Nat, w.heap.size ≤ w3.heap.size + n := by intro n; omega
        go_wp2
        refine bodyPost_ret (by simp [results, Try.results29, go_sem, *]; try rfl) rfl ?_
        refine ⟨by first | rfl | simp, ?_⟩
        repeat' (first | (with_reducible exact Below.refl _ _) | (with_reducible assumption) | (with_reducible refine Below.alloc ?_ ?_ _) | (with_reducible refine Below.drew ?_) | (with_reducible refine bdrewN ?_ _) | (with_reducible refine Below.setCell ?_ ?_ _) | (with_reducible refine bthen ?_ (by assumption) ?_) | go_size)
      · have bhd := inB_iff.1 hd
        by_cases h0 : q = 0
        · have e : mkM p d q = ((0, 0, 0), 2) := by simp [mkM, hp, hd, h0]
          rw [e]; clear e
          have HP := Lib.hid hp
          have HQ := Lib.hid hq
          have HD := Lib.hid hd
          clear hp hq hd
          subst h0
          go_enter Try.func29, Try.ntmps29
          go_wp2_with fail
          apply Calls.mono
          · with_reducible exact l00In_any _ _ _ true HP.out _
          rintro _ w1 ⟨rfl, hb_w1⟩
          obtain ⟨hc_w1, hf_w1, hs_w1⟩ := bcell hb_w1
          try simp at hs_w1
          have hz_w1_w0 : w.heap.size < w1.heap.size := by omega
          have hy_w1_w0 : w.heap.size ≤ w1.heap.size := by omega
          have hx_w1_w0 : ∀ n : Nat, w.heap.size < w1.heap.size + n := by intro n; omega
          have hv_w1_w0 : ∀ n : Nat, w.heap.size ≤ w1.heap.size + n := by intro n; omega
          go_wp2_with fail
          apply Calls.mono
          · with_reducible exact l00In_any _ _ _ true HQ.out _
          rintro _ w2 ⟨rfl, hb_w2⟩
          obtain ⟨hc_w2, hf_w2, hs_w2⟩ := bcell hb_w2
          try simp at hs_w2
          have hz_w2_w0 : w.heap.size < w2.heap.size := by omega
          have hy_w2_w0 : w.heap.size ≤ w2.heap.size := by omega
          have hx_w2_w0 : ∀ n : Nat, w.heap.size < w2.heap.size + n := by intro n; omega
          have hv_w2_w0 : ∀ n : Nat, w.heap.size ≤ w2.heap.size + n := by intro n; omega
          go_wp2_with fail
          apply Calls.mono
          · with_reducible exact l00In_any _ _ _ true HD.out _
          rintro _ w3 ⟨rfl, hb_w3⟩
          obtain ⟨hc_w3, hf_w3, hs_w3⟩ := bcell hb_w3
          try simp at hs_w3
          have hz_w3_w0 : w.heap.size < w3.heap.size := by omega
          have hy_w3_w0 : w.heap.size ≤ w3.heap.size := by omega
          have hx_w3_w0 : ∀ n : Nat, w.heap.size < w3.heap.size + n := by intro n; omega
          have hv_w3_w0 : ∀ n : Nat, w.heap.size ≤ w3.heap.size + n := by intro n; omega
          go_wp2
          refine bodyPost_ret (by simp [results, Try.results29, go_sem, *]; try rfl) rfl ?_
          refine ⟨by first | rfl | simp, ?_⟩
          repeat' (first | (with_reducible exact Below.refl _ _) | (with_reducible assumption) | (with_reducible refine Below.alloc ?_ ?_ _) | (with_reducible refine Below.drew ?_) | (with_reducible refine bdrewN ?_ _) | (with_reducible refine Below.setCell ?_ ?_ _) | (with_reducible refine bthen ?_ (by assumption) ?_) | go_size)
        · have e0 : (q != 0) = true := by simp [h0]
          have e1 : (q == 0) = false := by simp [h0]
          cases hs : sqB d
          rotate_left
          · have e : mkM p d q = ((0, 0, 0), 6) := by simp [mkM, hp, hq, hd, hs, e0]
            rw [e]; clear e
            have HP := Lib.hid hp
            have HQ := Lib.hid hq
            have HD := Lib.hid hd
            have HS := Lib.hid hs
            clear hp hq hd hs
            go_enter Try.func29, Try.ntmps29
            go_wp2_with fail
            apply Calls.mono
            · with_reducible exact l00In_any _ _ _ true HP.out _
            rintro _ w1 ⟨rfl, hb_w1⟩
            obtain ⟨hc_w1, hf_w1, hs_w1⟩ := bcell hb_w1
            try simp at hs_w1
            have hz_w1_w0 : w.heap.size < w1.heap.size := by omega
            have hy_w1_w0 : w.heap.size ≤ w1.heap.size := by omega
            have hx_w1_w0 : ∀ n : Nat, w.heap.size < w1.heap.size + n := by intro n; omega
            have hv_w1_w0 : ∀ n : Nat, w.heap.size ≤ w1.heap.size + n := by intro n; omega
            go_wp2_with fail
            apply Calls.mono
            · with_reducible exact l00In_any _ _ _ true HQ.out _
            rintro _ w2 ⟨rfl, hb_w2⟩
            obtain ⟨hc_w2, hf_w2, hs_w2⟩ := bcell hb_w2
            try simp at hs_w2
            have hz_w2_w0 : w.heap.size < w2.heap.size := by omega
            have hy_w2_w0 : w.heap.size ≤ w2.heap.size := by omega
            have hx_w2_w0 : ∀ n : Nat, w.heap.size < w2.heap.size + n := by intro n; omega
            have hv_w2_w0 : ∀ n : Nat, w.heap.size ≤ w2.heap.size + n := by intro n; omega
            go_wp2_with fail
            apply Calls.mono
            · with_reducible exact l00In_any _ _ _ true HD.out _
            rintro _ w3 ⟨rfl, hb_w3⟩
            obtain ⟨hc_w3, hf_w3, hs_w3⟩ := bcell hb_w3
            try simp at hs_w3
            have hz_w3_w0 : w.heap.size < w3.heap.size := by omega
            have hy_w3_w0 : w.heap.size ≤ w3.heap.size := by omega
            have hx_w3_w0 : ∀ n : Nat, w.heap.size < w3.heap.size + n := by intro n; omega
            have hv_w3_w0 : ∀ n : Nat, w.heap.size ≤ w3.heap.size + n := by intro n; omega
            go_wp2_with fail
            apply Calls.mono
            · with_reducible exact l07Square_any _ (by omega) (by omega) true HS.out _
            rintro _ w4 ⟨rfl, hb_w4⟩
            obtain ⟨hc_w4, hf_w4, hs_w4⟩ := bcell hb_w4
            try simp at hs_w4
            have hz_w4_w0 : w.heap.size < w4.heap.size := by omega
            have hy_w4_w0 : w.heap.size ≤ w4.heap.size := by omega
            have hx_w4_w0 : ∀ n : Nat, w.heap.size < w4.heap.size + n := by intro n; omega
            have hv_w4_w0 : ∀ n : Nat, w.heap.size ≤ w4.heap.size + n := by intro n; omega
            go_wp2
            refine bodyPost_ret (by simp [results, Try.results29, go_sem, *]; try rfl) rfl ?_
            refine ⟨by first | rfl | simp, ?_⟩
            repeat' (first | (with_reducible exact Below.refl _ _) | (with_reducible assumption) | (with_reducible refine Below.alloc ?_ ?_ _) | (with_reducible refine Below.drew ?_) | (with_reducible refine bdrewN ?_ _) | (with_reducible refine Below.setCell ?_ ?_ _) | (with_reducible refine bthen ?_ (by assumption) ?_) | go_size)
          · have hd2 := sq_two bhd.1 hs
            obtain ⟨A, hA⟩ : ∃ A : Int, A = (q.natAbs : Int) := ⟨_, rfl⟩
            obtain ⟨⟨f1, f2⟩, ⟨f3, f4⟩, ⟨f5, f6⟩, ⟨f7, f8⟩, ⟨f9, f10⟩, ⟨f11, f12⟩, f13, f14, f15⟩ := mk_facts hA bhp.1 bhp.2 bhq.1 bhq.2 bhd.1 bhd.2 h0
            have kA : ∀ w, Calls Try.prog 58 #[.int .i64 q] w (Ret w (.int .i64 A)) := fun w => by rw [hA]; exact l02Size_any q (by omega) (by omega) w
            have ft := div_between (a := 1000000) (b := A) (by omega) (by omega)
            by_cases hr : (d - p * p).tmod q = 0
            · have hT : mkT p d q = (p, d, q) := by unfold mkT; rw [if_pos hr]
              clear kA hA f13
              cases ho : okS p d q
              · have e : mkM p d q = ((0, 0, 0), 5) := by simp [mkM, hp, hq, hd, hs, e0, hT, ho]
                rw [e]; clear e
                have HP := Lib.hid hp
                have HQ := Lib.hid hq
                have HD := Lib.hid hd
                have HS := Lib.hid hs
                clear hp hq hd hs
                have HO := Lib.hid ho
                clear ho hT
                go_enter Try.func29, Try.ntmps29
                go_wp2_with fail
                apply Calls.mono
                · with_reducible exact l00In_any _ _ _ true HP.out _
                rintro _ w1 ⟨rfl, hb_w1⟩
                obtain ⟨hc_w1, hf_w1, hs_w1⟩ := bcell hb_w1
                try simp at hs_w1
                have hz_w1_w0 : w.heap.size < w1.heap.size := by omega
                have hy_w1_w0 : w.heap.size ≤ w1.heap.size := by omega
                have hx_w1_w0 : ∀ n : Nat, w.heap.size < w1.heap.size + n := by intro n; omega
                have hv_w1_w0 : ∀ n : Nat, w.heap.size ≤ w1.heap.size + n := by intro n; omega
                go_wp2_with fail
                apply Calls.mono
                · with_reducible exact l00In_any _ _ _ true HQ.out _
                rintro _ w2 ⟨rfl, hb_w2⟩
                obtain ⟨hc_w2, hf_w2, hs_w2⟩ := bcell hb_w2
                try simp at hs_w2
                have hz_w2_w0 : w.heap.size < w2.heap.size := by omega
                have hy_w2_w0 : w.heap.size ≤ w2.heap.size := by omega
                have hx_w2_w0 : ∀ n : Nat, w.heap.size < w2.heap.size + n := by intro n; omega
                have hv_w2_w0 : ∀ n : Nat, w.heap.size ≤ w2.heap.size + n := by intro n; omega
                go_wp2_with fail
                apply Calls.mono
                · with_reducible exact l00In_any _ _ _ true HD.out _
                rintro _ w3 ⟨rfl, hb_w3⟩
                obtain ⟨hc_w3, hf_w3, hs_w3⟩ := bcell hb_w3
                try simp at hs_w3
                have hz_w3_w0 : w.heap.size < w3.heap.size := by omega
                have hy_w3_w0 : w.heap.size ≤ w3.heap.size := by omega
                have hx_w3_w0 : ∀ n : Nat, w.heap.size < w3.heap.size + n := by intro n; omega
                have hv_w3_w0 : ∀ n : Nat, w.heap.size ≤ w3.heap.size + n := by intro n; omega
                go_wp2_with fail
                apply Calls.mono
                · with_reducible exact l07Square_any _ (by omega) (by omega) false HS.out _
                rintro _ w4 ⟨rfl, hb_w4⟩
                obtain ⟨hc_w4, hf_w4, hs_w4⟩ := bcell hb_w4
                try simp at hs_w4
                have hz_w4_w0 : w.heap.size < w4.heap.size := by omega
                have hy_w4_w0 : w.heap.size ≤ w4.heap.size := by omega
                have hx_w4_w0 : ∀ n : Nat, w.heap.size < w4.heap.size + n := by intro n; omega
                have hv_w4_w0 : ∀ n : Nat, w.heap.size ≤ w4.heap.size + n := by intro n; omega
                go_wp2_with fail
                apply Calls.mono
                · with_reducible exact l07Ok_any _ _ _ false HO.out _
                rintro _ w5 ⟨rfl, hb_w5⟩
                obtain ⟨hc_w5, hf_w5, hs_w5⟩ := bcell hb_w5
                try simp at hs_w5
                have hz_w5_w0 : w.heap.size < w5.heap.size := by omega
                have hy_w5_w0 : w.heap.size ≤ w5.heap.size := by omega
                have hx_w5_w0 : ∀ n : Nat, w.heap.size < w5.heap.size + n := by intro n; omega
                have hv_w5_w0 : ∀ n : Nat, w.heap.size ≤ w5.heap.size + n := by intro n; omega
                have hz_w5_w40 : w4.heap.size < w5.heap.size := by omega
                have hy_w5_w40 : w4.heap.size ≤ w5.heap.size := by omega
                have hx_w5_w40 : ∀ n : Nat, w4.heap.size < w5.heap.size + n := by intro n; omega
                have hv_w5_w40 : ∀ n : Nat, w4.heap.size ≤ w5.heap.size + n := by intro n; omega
                go_wp2
                refine bodyPost_ret (by simp [results, Try.results29, go_sem, *]; try rfl) rfl ?_
                refine ⟨by first | rfl | simp, ?_⟩
                repeat' (first | (with_reducible exact Below.refl _ _) | (with_reducible assumption) | (with_reducible refine Below.alloc ?_ ?_ _) | (with_reducible refine Below.drew ?_) | (with_reducible refine bdrewN ?_ _) | (with_reducible refine Below.setCell ?_ ?_ _) | (with_reducible refine bthen ?_ (by assumption) ?_) | go_size)
              · have e : mkM p d q = ((p, d, q), 0) := by simp [mkM, hp, hq, hd, hs, e0, hT, ho]
                rw [e]; clear e
                have HP := Lib.hid hp
                have HQ := Lib.hid hq
                have HD := Lib.hid hd
                have HS := Lib.hid hs
                clear hp hq hd hs
                have HO := Lib.hid ho
                clear ho hT
                go_enter Try.func29, Try.ntmps29
                go_wp2_with fail
                apply Calls.mono
                · with_reducible exact l00In_any _ _ _ true HP.out _
                rintro _ w1 ⟨rfl, hb_w1⟩
                obtain ⟨hc_w1, hf_w1, hs_w1⟩ := bcell hb_w1
                try simp at hs_w1
                have hz_w1_w0 : w.heap.size < w1.heap.size := by omega
                have hy_w1_w0 : w.heap.size ≤ w1.heap.size := by omega
                have hx_w1_w0 : ∀ n : Nat, w.heap.size < w1.heap.size + n := by intro n; omega
                have hv_w1_w0 : ∀ n : Nat, w.heap.size ≤ w1.heap.size + n := by intro n; omega
                go_wp2_with fail
                apply Calls.mono
                · with_reducible exact l00In_any _ _ _ true HQ.out _
                rintro _ w2 ⟨rfl, hb_w2⟩
                obtain ⟨hc_w2, hf_w2, hs_w2⟩ := bcell hb_w2
                try simp at hs_w2
                have hz_w2_w0 : w.heap.size < w2.heap.size := by omega
                have hy_w2_w0 : w.heap.size ≤ w2.heap.size := by omega
                have hx_w2_w0 : ∀ n : Nat, w.heap.size < w2.heap.size + n := by intro n; omega
                have hv_w2_w0 : ∀ n : Nat, w.heap.size ≤ w2.heap.size + n := by intro n; omega
                go_wp2_with fail
                apply Calls.mono
                · with_reducible exact l00In_any _ _ _ true HD.out _
                rintro _ w3 ⟨rfl, hb_w3⟩
                obtain ⟨hc_w3, hf_w3, hs_w3⟩ := bcell hb_w3
                try simp at hs_w3
                have hz_w3_w0 : w.heap.size < w3.heap.size := by omega
                have hy_w3_w0 : w.heap.size ≤ w3.heap.size := by omega
                have hx_w3_w0 : ∀ n : Nat, w.heap.size < w3.heap.size + n := by intro n; omega
                have hv_w3_w0 : ∀ n : Nat, w.heap.size ≤ w3.heap.size + n := by intro n; omega
                go_wp2_with fail
                apply Calls.mono
                · with_reducible exact l07Square_any _ (by omega) (by omega) false HS.out _
                rintro _ w4 ⟨rfl, hb_w4⟩
                obtain ⟨hc_w4, hf_w4, hs_w4⟩ := bcell hb_w4
                try simp at hs_w4
                have hz_w4_w0 : w.heap.size < w4.heap.size := by omega
                have hy_w4_w0 : w.heap.size ≤ w4.heap.size := by omega
                have hx_w4_w0 : ∀ n : Nat, w.heap.size < w4.heap.size + n := by intro n; omega
                have hv_w4_w0 : ∀ n : Nat, w.heap.size ≤ w4.heap.size + n := by intro n; omega
                go_wp2_with fail
                apply Calls.mono
                · with_reducible exact l07Ok_any _ _ _ true HO.out _
                rintro _ w5 ⟨rfl, hb_w5⟩
                obtain ⟨hc_w5, hf_w5, hs_w5⟩ := bcell hb_w5
                try simp at hs_w5
                have hz_w5_w0 : w.heap.size < w5.heap.size := by omega
                have hy_w5_w0 : w.heap.size ≤ w5.heap.size := by omega
                have hx_w5_w0 : ∀ n : Nat, w.heap.size < w5.heap.size + n := by intro n; omega
                have hv_w5_w0 : ∀ n : Nat, w.heap.size ≤ w5.heap.size + n := by intro n; omega
                have hz_w5_w40 : w4.heap.size < w5.heap.size := by omega
                have hy_w5_w40 : w4.heap.size ≤ w5.heap.size := by omega
                have hx_w5_w40 : ∀ n : Nat, w4.heap.size < w5.heap.size + n := by intro n; omega
                have hv_w5_w40 : ∀ n : Nat, w4.heap.size ≤ w5.heap.size + n := by intro n; omega
                go_wp2
                refine bodyPost_ret (by simp [results, Try.results29, go_sem, *]; try rfl) rfl ?_
                refine ⟨by first | rfl | simp, ?_⟩
                repeat' (first | (with_reducible exact Below.refl _ _) | (with_reducible assumption) | (with_reducible refine Below.alloc ?_ ?_ _) | (with_reducible refine Below.drew ?_) | (with_reducible refine bdrewN ?_ _) | (with_reducible refine Below.setCell ?_ ?_ _) | (with_reducible refine bthen ?_ (by assumption) ?_) | go_size)
            · have hT : mkT p d q = (p * A, d * A * A, q * A) := by unfold mkT; rw [if_neg hr, hA]
              have hrb : ((d - p * p).tmod q != 0) = true := bne_iff_ne.2 hr
              clear hA hr
              clear f13
              by_cases hb : A > (1000000 : Int).tdiv A
              · have ho : okS (p * A) (d * A * A) (q * A) = false := ok_root (mk_big hd2 f1 hb)
                · have e : mkM p d q = ((0, 0, 0), 5) := by simp [mkM, hp, hq, hd, hs, e0, hT, ho]
                  rw [e]; clear e
                  have HP := Lib.hid hp
                  have HQ := Lib.hid hq
                  have HD := Lib.hid hd
                  have HS := Lib.hid hs
                  clear hp hq hd hs
                  clear ho hT
                  go_enter Try.func29, Try.ntmps29
                  go_wp2_with fail
                  apply Calls.mono
                  · with_reducible exact l00In_any _ _ _ true HP.out _
                  rintro _ w1 ⟨rfl, hb_w1⟩
                  obtain ⟨hc_w1, hf_w1, hs_w1⟩ := bcell hb_w1
                  try simp at hs_w1
                  have hz_w1_w0 : w.heap.size < w1.heap.size := by omega
                  have hy_w1_w0 : w.heap.size ≤ w1.heap.size := by omega
                  have hx_w1_w0 : ∀ n : Nat, w.heap.size < w1.heap.size + n := by intro n; omega
                  have hv_w1_w0 : ∀ n : Nat, w.heap.size ≤ w1.heap.size + n := by intro n; omega
                  go_wp2_with fail
                  apply Calls.mono
                  · with_reducible exact l00In_any _ _ _ true HQ.out _
                  rintro _ w2 ⟨rfl, hb_w2⟩
                  obtain ⟨hc_w2, hf_w2, hs_w2⟩ := bcell hb_w2
                  try simp at hs_w2
                  have hz_w2_w0 : w.heap.size < w2.heap.size := by omega
                  have hy_w2_w0 : w.heap.size ≤ w2.heap.size := by omega
                  have hx_w2_w0 : ∀ n : Nat, w.heap.size < w2.heap.size + n := by intro n; omega
                  have hv_w2_w0 : ∀ n : Nat, w.heap.size ≤ w2.heap.size + n := by intro n; omega
                  go_wp2_with fail
                  apply Calls.mono
                  · with_reducible exact l00In_any _ _ _ true HD.out _
                  rintro _ w3 ⟨rfl, hb_w3⟩
                  obtain ⟨hc_w3, hf_w3, hs_w3⟩ := bcell hb_w3
                  try simp at hs_w3
                  have hz_w3_w0 : w.heap.size < w3.heap.size := by omega
                  have hy_w3_w0 : w.heap.size ≤ w3.heap.size := by omega
                  have hx_w3_w0 : ∀ n : Nat, w.heap.size < w3.heap.size + n := by intro n; omega
                  have hv_w3_w0 : ∀ n : Nat, w.heap.size ≤ w3.heap.size + n := by intro n; omega
                  go_wp2_with fail
                  apply Calls.mono
                  · with_reducible exact l07Square_any _ (by omega) (by omega) false HS.out _
                  rintro _ w4 ⟨rfl, hb_w4⟩
                  obtain ⟨hc_w4, hf_w4, hs_w4⟩ := bcell hb_w4
                  try simp at hs_w4
                  have hz_w4_w0 : w.heap.size < w4.heap.size := by omega
                  have hy_w4_w0 : w.heap.size ≤ w4.heap.size := by omega
                  have hx_w4_w0 : ∀ n : Nat, w.heap.size < w4.heap.size + n := by intro n; omega
                  have hv_w4_w0 : ∀ n : Nat, w.heap.size ≤ w4.heap.size + n := by intro n; omega
                  go_wp2_with fail
                  apply Calls.mono
                  · with_reducible exact kA _
                  rintro _ w5 ⟨rfl, hb_w5⟩
                  obtain ⟨hc_w5, hf_w5, hs_w5⟩ := bcell hb_w5
                  try simp at hs_w5
                  have hz_w5_w0 : w.heap.size < w5.heap.size := by omega
                  have hy_w5_w0 : w.heap.size ≤ w5.heap.size := by omega
                  have hx_w5_w0 : ∀ n : Nat, w.heap.size < w5.heap.size + n := by intro n; omega
                  have hv_w5_w0 : ∀ n : Nat, w.heap.size ≤ w5.heap.size + n := by intro n; omega
                  have hz_w5_w40 : w4.heap.size < w5.heap.size := by omega
                  have hy_w5_w40 : w4.heap.size ≤ w5.heap.size := by omega
                  have hx_w5_w40 : ∀ n : Nat, w4.heap.size < w5.heap.size + n := by intro n; omega
                  have hv_w5_w40 : ∀ n : Nat, w4.heap.size ≤ w5.heap.size + n := by intro n; omega
                  go_wp2
                  refine bodyPost_ret (by simp [results, Try.results29, go_sem, *]; try rfl) rfl ?_
                  refine ⟨by first | rfl | simp, ?_⟩
                  repeat' (first | (with_reducible exact Below.refl _ _) | (with_reducible assumption) | (with_reducible refine Below.alloc ?_ ?_ _) | (with_reducible refine Below.drew ?_) | (with_reducible refine bdrewN ?_ _) | (with_reducible refine Below.setCell ?_ ?_ _) | (with_reducible refine bthen ?_ (by assumption) ?_) | go_size)
              · cases ho : okS (p * A) (d * A * A) (q * A)
                · have e : mkM p d q = ((0, 0, 0), 5) := by simp [mkM, hp, hq, hd, hs, e0, hT, ho]
                  rw [e]; clear e
                  have HP := Lib.hid hp
                  have HQ := Lib.hid hq
                  have HD := Lib.hid hd
                  have HS := Lib.hid hs
                  clear hp hq hd hs
                  have HO := Lib.hid ho
                  clear ho hT
                  go_enter Try.func29, Try.ntmps29
                  go_wp2_with fail
                  apply Calls.mono
                  · with_reducible exact l00In_any _ _ _ true HP.out _
                  rintro _ w1 ⟨rfl, hb_w1⟩
                  obtain ⟨hc_w1, hf_w1, hs_w1⟩ := bcell hb_w1
                  try simp at hs_w1
                  have hz_w1_w0 : w.heap.size < w1.heap.size := by omega
                  have hy_w1_w0 : w.heap.size ≤ w1.heap.size := by omega
                  have hx_w1_w0 : ∀ n : Nat, w.heap.size < w1.heap.size + n := by intro n; omega
                  have hv_w1_w0 : ∀ n : Nat, w.heap.size ≤ w1.heap.size + n := by intro n; omega
                  go_wp2_with fail
                  apply Calls.mono
                  · with_reducible exact l00In_any _ _ _ true HQ.out _
                  rintro _ w2 ⟨rfl, hb_w2⟩
                  obtain ⟨hc_w2, hf_w2, hs_w2⟩ := bcell hb_w2
                  try simp at hs_w2
                  have hz_w2_w0 : w.heap.size < w2.heap.size := by omega
                  have hy_w2_w0 : w.heap.size ≤ w2.heap.size := by omega
                  have hx_w2_w0 : ∀ n : Nat, w.heap.size < w2.heap.size + n := by intro n; omega
                  have hv_w2_w0 : ∀ n : Nat, w.heap.size ≤ w2.heap.size + n := by intro n; omega
                  go_wp2_with fail
                  apply Calls.mono
                  · with_reducible exact l00In_any _ _ _ true HD.out _
                  rintro _ w3 ⟨rfl, hb_w3⟩
                  obtain ⟨hc_w3, hf_w3, hs_w3⟩ := bcell hb_w3
                  try simp at hs_w3
                  have hz_w3_w0 : w.heap.size < w3.heap.size := by omega
                  have hy_w3_w0 : w.heap.size ≤ w3.heap.size := by omega
                  have hx_w3_w0 : ∀ n : Nat, w.heap.size < w3.heap.size + n := by intro n; omega
                  have hv_w3_w0 : ∀ n : Nat, w.heap.size ≤ w3.heap.size + n := by intro n; omega
                  go_wp2_with fail
                  apply Calls.mono
                  · with_reducible exact l07Square_any _ (by omega) (by omega) false HS.out _
                  rintro _ w4 ⟨rfl, hb_w4⟩
                  obtain ⟨hc_w4, hf_w4, hs_w4⟩ := bcell hb_w4
                  try simp at hs_w4
                  have hz_w4_w0 : w.heap.size < w4.heap.size := by omega
                  have hy_w4_w0 : w.heap.size ≤ w4.heap.size := by omega
                  have hx_w4_w0 : ∀ n : Nat, w.heap.size < w4.heap.size + n := by intro n; omega
                  have hv_w4_w0 : ∀ n : Nat, w.heap.size ≤ w4.heap.size + n := by intro n; omega
                  go_wp2_with fail
                  apply Calls.mono
                  · with_reducible exact kA _
                  rintro _ w5 ⟨rfl, hb_w5⟩
                  obtain ⟨hc_w5, hf_w5, hs_w5⟩ := bcell hb_w5
                  try simp at hs_w5
                  have hz_w5_w0 : w.heap.size < w5.heap.size := by omega
                  have hy_w5_w0 : w.heap.size ≤ w5.heap.size := by omega
                  have hx_w5_w0 : ∀ n : Nat, w.heap.size < w5.heap.size + n := by intro n; omega
                  have hv_w5_w0 : ∀ n : Nat, w.heap.size ≤ w5.heap.size + n := by intro n; omega
                  have hz_w5_w40 : w4.heap.size < w5.heap.size := by omega
                  have hy_w5_w40 : w4.heap.size ≤ w5.heap.size := by omega
                  have hx_w5_w40 : ∀ n : Nat, w4.heap.size < w5.heap.size + n := by intro n; omega
                  have hv_w5_w40 : ∀ n : Nat, w4.heap.size ≤ w5.heap.size + n := by intro n; omega
                  go_wp2_with fail
                  apply Calls.mono
                  · with_reducible exact l07Ok_any _ _ _ false HO.out _
                  rintro _ w6 ⟨rfl, hb_w6⟩
                  obtain ⟨hc_w6, hf_w6, hs_w6⟩ := bcell hb_w6
                  try simp at hs_w6
                  have hz_w6_w0 : w.heap.size < w6.heap.size := by omega
                  have hy_w6_w0 : w.heap.size ≤ w6.heap.size := by omega
                  have hx_w6_w0 : ∀ n : Nat, w.heap.size < w6.heap.size + n := by intro n; omega
                  have hv_w6_w0 : ∀ n : Nat, w.heap.size ≤ w6.heap.size + n := by intro n; omega
                  have hz_w6_w40 : w4.heap.size < w6.heap.size := by omega
                  have hy_w6_w40 : w4.heap.size ≤ w6.heap.size := by omega
                  have hx_w6_w40 : ∀ n : Nat, w4.heap.size < w6.heap.size + n := by intro n; omega
                  have hv_w6_w40 : ∀ n : Nat, w4.heap.size ≤ w6.heap.size + n := by intro n; omega
                  go_wp2
                  refine bodyPost_ret (by simp [results, Try.results29, go_sem, *]; try rfl) rfl ?_
                  refine ⟨by first | rfl | simp, ?_⟩
                  repeat' (first | (with_reducible exact Below.refl _ _) | (with_reducible assumption) | (with_reducible refine Below.alloc ?_ ?_ _) | (with_reducible refine Below.drew ?_) | (with_reducible refine bdrewN ?_ _) | (with_reducible refine Below.setCell ?_ ?_ _) | (with_reducible refine bthen ?_ (by assumption) ?_) | go_size)
                · have e : mkM p d q = ((p * A, d * A * A, q * A), 0) := by simp [mkM, hp, hq, hd, hs, e0, hT, ho]
                  rw [e]; clear e
                  have HP := Lib.hid hp
                  have HQ := Lib.hid hq
                  have HD := Lib.hid hd
                  have HS := Lib.hid hs
                  clear hp hq hd hs
                  have HO := Lib.hid ho
                  clear ho hT
                  go_enter Try.func29, Try.ntmps29
                  go_wp2_with fail
                  apply Calls.mono
                  · with_reducible exact l00In_any _ _ _ true HP.out _
                  rintro _ w1 ⟨rfl, hb_w1⟩
                  obtain ⟨hc_w1, hf_w1, hs_w1⟩ := bcell hb_w1
                  try simp at hs_w1
                  have hz_w1_w0 : w.heap.size < w1.heap.size := by omega
                  have hy_w1_w0 : w.heap.size ≤ w1.heap.size := by omega
                  have hx_w1_w0 : ∀ n : Nat, w.heap.size < w1.heap.size + n := by intro n; omega
                  have hv_w1_w0 : ∀ n : Nat, w.heap.size ≤ w1.heap.size + n := by intro n; omega
                  go_wp2_with fail
                  apply Calls.mono
                  · with_reducible exact l00In_any _ _ _ true HQ.out _
                  rintro _ w2 ⟨rfl, hb_w2⟩
                  obtain ⟨hc_w2, hf_w2, hs_w2⟩ := bcell hb_w2
                  try simp at hs_w2
                  have hz_w2_w0 : w.heap.size < w2.heap.size := by omega
                  have hy_w2_w0 : w.heap.size ≤ w2.heap.size := by omega
                  have hx_w2_w0 : ∀ n : Nat, w.heap.size < w2.heap.size + n := by intro n; omega
                  have hv_w2_w0 : ∀ n : Nat, w.heap.size ≤ w2.heap.size + n := by intro n; omega
                  go_wp2_with fail
                  apply Calls.mono
                  · with_reducible exact l00In_any _ _ _ true HD.out _
                  rintro _ w3 ⟨rfl, hb_w3⟩
                  obtain ⟨hc_w3, hf_w3, hs_w3⟩ := bcell hb_w3
                  try simp at hs_w3
                  have hz_w3_w0 : w.heap.size < w3.heap.size := by omega
                  have hy_w3_w0 : w.heap.size ≤ w3.heap.size := by omega
                  have hx_w3_w0 : ∀ n : Nat, w.heap.size < w3.heap.size + n := by intro n; omega
                  have hv_w3_w0 : ∀ n : Nat, w.heap.size ≤ w3.heap.size + n := by intro n; omega
                  go_wp2_with fail
                  apply Calls.mono
                  · with_reducible exact l07Square_any _ (by omega) (by omega) false HS.out _
                  rintro _ w4 ⟨rfl, hb_w4⟩
                  obtain ⟨hc_w4, hf_w4, hs_w4⟩ := bcell hb_w4
                  try simp at hs_w4
                  have hz_w4_w0 : w.heap.size < w4.heap.size := by omega
                  have hy_w4_w0 : w.heap.size ≤ w4.heap.size := by omega
                  have hx_w4_w0 : ∀ n : Nat, w.heap.size < w4.heap.size + n := by intro n; omega
                  have hv_w4_w0 : ∀ n : Nat, w.heap.size ≤ w4.heap.size + n := by intro n; omega
                  go_wp2_with fail
                  apply Calls.mono
                  · with_reducible exact kA _
                  rintro _ w5 ⟨rfl, hb_w5⟩
                  obtain ⟨hc_w5, hf_w5, hs_w5⟩ := bcell hb_w5
                  try simp at hs_w5
                  have hz_w5_w0 : w.heap.size < w5.heap.size := by omega
                  have hy_w5_w0 : w.heap.size ≤ w5.heap.size := by omega
                  have hx_w5_w0 : ∀ n : Nat, w.heap.size < w5.heap.size + n := by intro n; omega
                  have hv_w5_w0 : ∀ n : Nat, w.heap.size ≤ w5.heap.size + n := by intro n; omega
                  have hz_w5_w40 : w4.heap.size < w5.heap.size := by omega
                  have hy_w5_w40 : w4.heap.size ≤ w5.heap.size := by omega
                  have hx_w5_w40 : ∀ n : Nat, w4.heap.size < w5.heap.size + n := by intro n; omega
                  have hv_w5_w40 : ∀ n : Nat, w4.heap.size ≤ w5.heap.size + n := by intro n; omega
                  go_wp2_with fail
                  apply Calls.mono
                  · with_reducible exact l07Ok_any _ _ _ true HO.out _
                  rintro _ w6 ⟨rfl, hb_w6⟩
                  obtain ⟨hc_w6, hf_w6, hs_w6⟩ := bcell hb_w6
                  try simp at hs_w6
                  have hz_w6_w0 : w.heap.size < w6.heap.size := by omega
                  have hy_w6_w0 : w.heap.size ≤ w6.heap.size := by omega
                  have hx_w6_w0 : ∀ n : Nat, w.heap.size < w6.heap.size + n := by intro n; omega
                  have hv_w6_w0 : ∀ n : Nat, w.heap.size ≤ w6.heap.size + n := by intro n; omega
                  have hz_w6_w40 : w4.heap.size < w6.heap.size := by omega
                  have hy_w6_w40 : w4.heap.size ≤ w6.heap.size := by omega
                  have hx_w6_w40 : ∀ n : Nat, w4.heap.size < w6.heap.size + n := by intro n; omega
                  have hv_w6_w40 : ∀ n : Nat, w4.heap.size ≤ w6.heap.size + n := by intro n; omega
                  go_wp2
                  refine bodyPost_ret (by simp [results, Try.results29, go_sem, *]; try rfl) rfl ?_
                  refine ⟨by first | rfl | simp, ?_⟩
                  repeat' (first | (with_reducible exact Below.refl _ _) | (with_reducible assumption) | (with_reducible refine Below.alloc ?_ ?_ _) | (with_reducible refine Below.drew ?_) | (with_reducible refine bdrewN ?_ _) | (with_reducible refine Below.setCell ?_ ?_ _) | (with_reducible refine bthen ?_ (by assumption) ?_) | go_size)
end Go.Proofs.Ytghdkgbhgnnckaa
