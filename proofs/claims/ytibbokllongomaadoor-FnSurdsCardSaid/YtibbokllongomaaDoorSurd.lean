/-
  Surds: validity, the same plain test in both packages; the root; conversions, equality; the whole part.
-/
import Derived.Test.YtibbokllongomaaDoorRoot
namespace Go.Proofs.YtibbokllongomaaDoor
open Go.RowKit

/-- The number (p + root d) / q is a plain surd. -/
def okS (p d q : Int) : Bool := inB d 2 1000000 && !sqB d && inB p (-1000000) 1000000 && inB q (-1000000) 1000000 && (q != 0) && ((d - p * p).tmod q == 0)
theorem sq6 {p : Int} (h : inB p (-1000000) 1000000 = true) : 0 ≤ p * p ∧ p * p ≤ 1000000000000 := by
  have h2 := inB_iff.1 h
  have h4 : p * p = ((p.natAbs * p.natAbs : Nat) : Int) := by rw [Int.natAbs_mul_self]
  have h5 : p.natAbs * p.natAbs ≤ 1000000 * 1000000 := Nat.mul_le_mul (by omega) (by omega)
  omega
theorem okS_bd {p d q : Int} (h : okS p d q = true) : 2 ≤ d ∧ d ≤ 1000000 ∧ -1000000 ≤ p ∧ p ≤ 1000000 ∧ -1000000 ≤ q ∧ q ≤ 1000000 ∧ q ≠ 0 ∧ sqB d = false ∧ (d - p * p).tmod q = 0 := by
  simp only [okS, inB, Bool.and_eq_true, decide_eq_true_eq, bne_iff_ne, beq_iff_eq, Bool.not_eq_true'] at h
  obtain ⟨⟨⟨⟨⟨h1, h2⟩, h3⟩, h4⟩, h5⟩, h6⟩ := h
  exact ⟨h1.1, h1.2, h3.1, h3.2, h4.1, h4.2, h5, h2, h6⟩
def rootM (n : Int) : Int × Bool × Int := if inB n 0 1000000000000000000 then (((isq n.toNat : Nat) : Int), ((isq n.toNat : Nat) : Int) * ((isq n.toNat : Nat) : Int) == n, 0) else (0, false, 2)
set_option maxHeartbeats 2000000 in
theorem validSurd_any (p d q : Int) (r : Bool) (hr : okS p d q = r) (w : World) : Calls Tryd.prog 43 #[.agg #[.int .i64 p, .int .i64 d, .int .i64 q]] w (Ret w (.bool r)) := by
  subst hr
  cases hd : inB d 2 1000000
  · have e : okS p d q = false := by simp [okS, hd]
    rw [e]; clear e
    have HD := Lib.hid hd
    clear hd
    go_enter Tryd.func43, Tryd.ntmps43
    go_wp2_with fail
    apply Calls.mono
    · with_reducible exact within_any _ _ _ false HD.out _
    rintro _ w1 ⟨rfl, hb_w1⟩
    obtain ⟨hc_w1, hf_w1, hs_w1⟩ := bcell hb_w1
    try simp at hs_w1
    have hz_w1_w0 : w.heap.size < w1.heap.size := by omega
    have hy_w1_w0 : w.heap.size ≤ w1.heap.size := by omega
    have hx_w1_w0 : ∀ n : Nat, w.heap.size < w1.heap.size + n := by intro n; omega
    have hv_w1_w0 : ∀ n : Nat, w.heap.size ≤ w1.heap.size + n := by intro n; omega
    go_wp2
    go_ret
    refine ⟨by first | rfl | (simp), ?_⟩
    repeat' (first | (with_reducible exact Below.refl _ _) | (with_reducible assumption) | (with_reducible refine Below.alloc ?_ ?_ _) | (with_reducible refine Below.drew ?_) | (with_reducible refine bdrewN ?_ _) | (with_reducible refine Below.setCell ?_ ?_ _) | (with_reducible refine bthen ?_ (by assumption) ?_) | go_size)
  · skip
    have bd := inB_iff.1 hd
    cases hs : sqB d
    rotate_left
    · have e : okS p d q = false := by simp [okS, hs]
      rw [e]; clear e
      have HD := Lib.hid hd
      have HS := Lib.hid hs
      clear hd hs
      go_enter Tryd.func43, Tryd.ntmps43
      go_wp2_with fail
      apply Calls.mono
      · with_reducible exact within_any _ _ _ true HD.out _
      rintro _ w1 ⟨rfl, hb_w1⟩
      obtain ⟨hc_w1, hf_w1, hs_w1⟩ := bcell hb_w1
      try simp at hs_w1
      have hz_w1_w0 : w.heap.size < w1.heap.size := by omega
      have hy_w1_w0 : w.heap.size ≤ w1.heap.size := by omega
      have hx_w1_w0 : ∀ n : Nat, w.heap.size < w1.heap.size + n := by intro n; omega
      have hv_w1_w0 : ∀ n : Nat, w.heap.size ≤ w1.heap.size + n := by intro n; omega
      go_wp2_with fail
      apply Calls.mono
      · with_reducible exact isSquare_any _ (by omega) true HS.out _
      rintro _ w2 ⟨rfl, hb_w2⟩
      obtain ⟨hc_w2, hf_w2, hs_w2⟩ := bcell hb_w2
      try simp at hs_w2
      have hz_w2_w0 : w.heap.size < w2.heap.size := by omega
      have hy_w2_w0 : w.heap.size ≤ w2.heap.size := by omega
      have hx_w2_w0 : ∀ n : Nat, w.heap.size < w2.heap.size + n := by intro n; omega
      have hv_w2_w0 : ∀ n : Nat, w.heap.size ≤ w2.heap.size + n := by intro n; omega
      go_wp2
      go_ret
      refine ⟨by first | rfl | (simp), ?_⟩
      repeat' (first | (with_reducible exact Below.refl _ _) | (with_reducible assumption) | (with_reducible refine Below.alloc ?_ ?_ _) | (with_reducible refine Below.drew ?_) | (with_reducible refine bdrewN ?_ _) | (with_reducible refine Below.setCell ?_ ?_ _) | (with_reducible refine bthen ?_ (by assumption) ?_) | go_size)
    · skip
      cases hp : inB p (-1000000) 1000000
      · have e : okS p d q = false := by simp [okS, hp]
        rw [e]; clear e
        have HD := Lib.hid hd
        have HS := Lib.hid hs
        have HP := Lib.hid hp
        clear hd hs hp
        go_enter Tryd.func43, Tryd.ntmps43
        go_wp2_with fail
        apply Calls.mono
        · with_reducible exact within_any _ _ _ true HD.out _
        rintro _ w1 ⟨rfl, hb_w1⟩
        obtain ⟨hc_w1, hf_w1, hs_w1⟩ := bcell hb_w1
        try simp at hs_w1
        have hz_w1_w0 : w.heap.size < w1.heap.size := by omega
        have hy_w1_w0 : w.heap.size ≤ w1.heap.size := by omega
        have hx_w1_w0 : ∀ n : Nat, w.heap.size < w1.heap.size + n := by intro n; omega
        have hv_w1_w0 : ∀ n : Nat, w.heap.size ≤ w1.heap.size + n := by intro n; omega
        go_wp2_with fail
        apply Calls.mono
        · with_reducible exact isSquare_any _ (by omega) false HS.out _
        rintro _ w2 ⟨rfl, hb_w2⟩
        obtain ⟨hc_w2, hf_w2, hs_w2⟩ := bcell hb_w2
        try simp at hs_w2
        have hz_w2_w0 : w.heap.size < w2.heap.size := by omega
        have hy_w2_w0 : w.heap.size ≤ w2.heap.size := by omega
        have hx_w2_w0 : ∀ n : Nat, w.heap.size < w2.heap.size + n := by intro n; omega
        have hv_w2_w0 : ∀ n : Nat, w.heap.size ≤ w2.heap.size + n := by intro n; omega
        go_wp2_with fail
        apply Calls.mono
        · with_reducible exact within_any _ _ _ false HP.out _
        rintro _ w3 ⟨rfl, hb_w3⟩
        obtain ⟨hc_w3, hf_w3, hs_w3⟩ := bcell hb_w3
        try simp at hs_w3
        have hz_w3_w0 : w.heap.size < w3.heap.size := by omega
        have hy_w3_w0 : w.heap.size ≤ w3.heap.size := by omega
        have hx_w3_w0 : ∀ n : Nat, w.heap.size < w3.heap.size + n := by intro n; omega
        have hv_w3_w0 : ∀ n : Nat, w.heap.size ≤ w3.heap.size + n := by intro n; omega
        go_wp2
        go_ret
        refine ⟨by first | rfl | (simp), ?_⟩
        repeat' (first | (with_reducible exact Below.refl _ _) | (with_reducible assumption) | (with_reducible refine Below.alloc ?_ ?_ _) | (with_reducible refine Below.drew ?_) | (with_reducible refine bdrewN ?_ _) | (with_reducible refine Below.setCell ?_ ?_ _) | (with_reducible refine bthen ?_ (by assumption) ?_) | go_size)
      · skip
        have bp := sq6 hp
        cases hq : inB q (-1000000) 1000000
        · have e : okS p d q = false := by simp [okS, hq]
          rw [e]; clear e
          have HD := Lib.hid hd
          have HS := Lib.hid hs
          have HP := Lib.hid hp
          have HQ := Lib.hid hq
          clear hd hs hp hq
          go_enter Tryd.func43, Tryd.ntmps43
          go_wp2_with fail
          apply Calls.mono
          · with_reducible exact within_any _ _ _ true HD.out _
          rintro _ w1 ⟨rfl, hb_w1⟩
          obtain ⟨hc_w1, hf_w1, hs_w1⟩ := bcell hb_w1
          try simp at hs_w1
          have hz_w1_w0 : w.heap.size < w1.heap.size := by omega
          have hy_w1_w0 : w.heap.size ≤ w1.heap.size := by omega
          have hx_w1_w0 : ∀ n : Nat, w.heap.size < w1.heap.size + n := by intro n; omega
          have hv_w1_w0 : ∀ n : Nat, w.heap.size ≤ w1.heap.size + n := by intro n; omega
          go_wp2_with fail
          apply Calls.mono
          · with_reducible exact isSquare_any _ (by omega) false HS.out _
          rintro _ w2 ⟨rfl, hb_w2⟩
          obtain ⟨hc_w2, hf_w2, hs_w2⟩ := bcell hb_w2
          try simp at hs_w2
          have hz_w2_w0 : w.heap.size < w2.heap.size := by omega
          have hy_w2_w0 : w.heap.size ≤ w2.heap.size := by omega
          have hx_w2_w0 : ∀ n : Nat, w.heap.size < w2.heap.size + n := by intro n; omega
          have hv_w2_w0 : ∀ n : Nat, w.heap.size ≤ w2.heap.size + n := by intro n; omega
          go_wp2_with fail
          apply Calls.mono
          · with_reducible exact within_any _ _ _ true HP.out _
          rintro _ w3 ⟨rfl, hb_w3⟩
          obtain ⟨hc_w3, hf_w3, hs_w3⟩ := bcell hb_w3
          try simp at hs_w3
          have hz_w3_w0 : w.heap.size < w3.heap.size := by omega
          have hy_w3_w0 : w.heap.size ≤ w3.heap.size := by omega
          have hx_w3_w0 : ∀ n : Nat, w.heap.size < w3.heap.size + n := by intro n; omega
          have hv_w3_w0 : ∀ n : Nat, w.heap.size ≤ w3.heap.size + n := by intro n; omega
          go_wp2_with fail
          apply Calls.mono
          · with_reducible exact within_any _ _ _ false HQ.out _
          rintro _ w4 ⟨rfl, hb_w4⟩
          obtain ⟨hc_w4, hf_w4, hs_w4⟩ := bcell hb_w4
          try simp at hs_w4
          have hz_w4_w0 : w.heap.size < w4.heap.size := by omega
          have hy_w4_w0 : w.heap.size ≤ w4.heap.size := by omega
          have hx_w4_w0 : ∀ n : Nat, w.heap.size < w4.heap.size + n := by intro n; omega
          have hv_w4_w0 : ∀ n : Nat, w.heap.size ≤ w4.heap.size + n := by intro n; omega
          go_wp2
          go_ret
          refine ⟨by first | rfl | (simp), ?_⟩
          repeat' (first | (with_reducible exact Below.refl _ _) | (with_reducible assumption) | (with_reducible refine Below.alloc ?_ ?_ _) | (with_reducible refine Below.drew ?_) | (with_reducible refine bdrewN ?_ _) | (with_reducible refine Below.setCell ?_ ?_ _) | (with_reducible refine bthen ?_ (by assumption) ?_) | go_size)
        · skip
          have bq := inB_iff.1 hq
          by_cases h0 : q = 0
          · have e : okS p d q = false := by simp [okS, h0]
            rw [e]; clear e
            subst h0
            have HD := Lib.hid hd
            have HS := Lib.hid hs
            have HP := Lib.hid hp
            have HQ := Lib.hid hq
            clear hd hs hp hq
            go_enter Tryd.func43, Tryd.ntmps43
            go_wp2_with fail
            apply Calls.mono
            · with_reducible exact within_any _ _ _ true HD.out _
            rintro _ w1 ⟨rfl, hb_w1⟩
            obtain ⟨hc_w1, hf_w1, hs_w1⟩ := bcell hb_w1
            try simp at hs_w1
            have hz_w1_w0 : w.heap.size < w1.heap.size := by omega
            have hy_w1_w0 : w.heap.size ≤ w1.heap.size := by omega
            have hx_w1_w0 : ∀ n : Nat, w.heap.size < w1.heap.size + n := by intro n; omega
            have hv_w1_w0 : ∀ n : Nat, w.heap.size ≤ w1.heap.size + n := by intro n; omega
            go_wp2_with fail
            apply Calls.mono
            · with_reducible exact isSquare_any _ (by omega) false HS.out _
            rintro _ w2 ⟨rfl, hb_w2⟩
            obtain ⟨hc_w2, hf_w2, hs_w2⟩ := bcell hb_w2
            try simp at hs_w2
            have hz_w2_w0 : w.heap.size < w2.heap.size := by omega
            have hy_w2_w0 : w.heap.size ≤ w2.heap.size := by omega
            have hx_w2_w0 : ∀ n : Nat, w.heap.size < w2.heap.size + n := by intro n; omega
            have hv_w2_w0 : ∀ n : Nat, w.heap.size ≤ w2.heap.size + n := by intro n; omega
            go_wp2_with fail
            apply Calls.mono
            · with_reducible exact within_any _ _ _ true HP.out _
            rintro _ w3 ⟨rfl, hb_w3⟩
            obtain ⟨hc_w3, hf_w3, hs_w3⟩ := bcell hb_w3
            try simp at hs_w3
            have hz_w3_w0 : w.heap.size < w3.heap.size := by omega
            have hy_w3_w0 : w.heap.size ≤ w3.heap.size := by omega
            have hx_w3_w0 : ∀ n : Nat, w.heap.size < w3.heap.size + n := by intro n; omega
            have hv_w3_w0 : ∀ n : Nat, w.heap.size ≤ w3.heap.size + n := by intro n; omega
            go_wp2_with fail
            apply Calls.mono
            · with_reducible exact within_any _ _ _ true HQ.out _
            rintro _ w4 ⟨rfl, hb_w4⟩
            obtain ⟨hc_w4, hf_w4, hs_w4⟩ := bcell hb_w4
            try simp at hs_w4
            have hz_w4_w0 : w.heap.size < w4.heap.size := by omega
            have hy_w4_w0 : w.heap.size ≤ w4.heap.size := by omega
            have hx_w4_w0 : ∀ n : Nat, w.heap.size < w4.heap.size + n := by intro n; omega
            have hv_w4_w0 : ∀ n : Nat, w.heap.size ≤ w4.heap.size + n := by intro n; omega
            go_wp2
            go_ret
            refine ⟨by first | rfl | (simp), ?_⟩
            repeat' (first | (with_reducible exact Below.refl _ _) | (with_reducible assumption) | (with_reducible refine Below.alloc ?_ ?_ _) | (with_reducible refine Below.drew ?_) | (with_reducible refine bdrewN ?_ _) | (with_reducible refine Below.setCell ?_ ?_ _) | (with_reducible refine bthen ?_ (by assumption) ?_) | go_size)
          · have e0 : (q != 0) = true := by simp [h0]
            have e1 : (q == 0) = false := by simp [h0]
            have e : okS p d q = ((d - p * p).tmod q == 0) := by simp [okS, hd, hs, hp, hq, e0]
            rw [e]; clear e
            have HD := Lib.hid hd
            have HS := Lib.hid hs
            have HP := Lib.hid hp
            have HQ := Lib.hid hq
            clear hd hs hp hq
            go_enter Tryd.func43, Tryd.ntmps43
            go_wp2_with fail
            apply Calls.mono
            · with_reducible exact within_any _ _ _ true HD.out _
            rintro _ w1 ⟨rfl, hb_w1⟩
            obtain ⟨hc_w1, hf_w1, hs_w1⟩ := bcell hb_w1
            try simp at hs_w1
            have hz_w1_w0 : w.heap.size < w1.heap.size := by omega
            have hy_w1_w0 : w.heap.size ≤ w1.heap.size := by omega
            have hx_w1_w0 : ∀ n : Nat, w.heap.size < w1.heap.size + n := by intro n; omega
            have hv_w1_w0 : ∀ n : Nat, w.heap.size ≤ w1.heap.size + n := by intro n; omega
            go_wp2_with fail
            apply Calls.mono
            · with_reducible exact isSquare_any _ (by omega) false HS.out _
            rintro _ w2 ⟨rfl, hb_w2⟩
            obtain ⟨hc_w2, hf_w2, hs_w2⟩ := bcell hb_w2
            try simp at hs_w2
            have hz_w2_w0 : w.heap.size < w2.heap.size := by omega
            have hy_w2_w0 : w.heap.size ≤ w2.heap.size := by omega
            have hx_w2_w0 : ∀ n : Nat, w.heap.size < w2.heap.size + n := by intro n; omega
            have hv_w2_w0 : ∀ n : Nat, w.heap.size ≤ w2.heap.size + n := by intro n; omega
            go_wp2_with fail
            apply Calls.mono
            · with_reducible exact within_any _ _ _ true HP.out _
            rintro _ w3 ⟨rfl, hb_w3⟩
            obtain ⟨hc_w3, hf_w3, hs_w3⟩ := bcell hb_w3
            try simp at hs_w3
            have hz_w3_w0 : w.heap.size < w3.heap.size := by omega
            have hy_w3_w0 : w.heap.size ≤ w3.heap.size := by omega
            have hx_w3_w0 : ∀ n : Nat, w.heap.size < w3.heap.size + n := by intro n; omega
            have hv_w3_w0 : ∀ n : Nat, w.heap.size ≤ w3.heap.size + n := by intro n; omega
            go_wp2_with fail
            apply Calls.mono
            · with_reducible exact within_any _ _ _ true HQ.out _
            rintro _ w4 ⟨rfl, hb_w4⟩
            obtain ⟨hc_w4, hf_w4, hs_w4⟩ := bcell hb_w4
            try simp at hs_w4
            have hz_w4_w0 : w.heap.size < w4.heap.size := by omega
            have hy_w4_w0 : w.heap.size ≤ w4.heap.size := by omega
            have hx_w4_w0 : ∀ n : Nat, w.heap.size < w4.heap.size + n := by intro n; omega
            have hv_w4_w0 : ∀ n : Nat, w.heap.size ≤ w4.heap.size + n := by intro n; omega
            go_wp2
            go_ret
            refine ⟨by first | rfl | (simp), ?_⟩
            repeat' (first | (with_reducible exact Below.refl _ _) | (with_reducible assumption) | (with_reducible refine Below.alloc ?_ ?_ _) | (with_reducible refine Below.drew ?_) | (with_reducible refine bdrewN ?_ _) | (with_reducible refine Below.setCell ?_ ?_ _) | (with_reducible refine bthen ?_ (by assumption) ?_) | go_size)
set_option maxHeartbeats 2000000 in
theorem l07Ok_any (p d q : Int) (r : Bool) (hr : okS p d q = r) (w : World) : Calls Tryd.prog 44 #[.agg #[.int .i64 p, .int .i64 d, .int .i64 q]] w (Ret w (.bool r)) := by
  subst hr
  cases hd : inB d 2 1000000
  · have e : okS p d q = false := by simp [okS, hd]
    rw [e]; clear e
    have HD := Lib.hid hd
    clear hd
    go_enter Tryd.func44, Tryd.ntmps44
    go_wp2_with fail
    apply Calls.mono
    · with_reducible exact l00In_any _ _ _ false HD.out _
    rintro _ w1 ⟨rfl, hb_w1⟩
    obtain ⟨hc_w1, hf_w1, hs_w1⟩ := bcell hb_w1
    try simp at hs_w1
    have hz_w1_w0 : w.heap.size < w1.heap.size := by omega
    have hy_w1_w0 : w.heap.size ≤ w1.heap.size := by omega
    have hx_w1_w0 : ∀ n : Nat, w.heap.size < w1.heap.size + n := by intro n; omega
    have hv_w1_w0 : ∀ n : Nat, w.heap.size ≤ w1.heap.size + n := by intro n; omega
    go_wp2
    go_ret
    refine ⟨by first | rfl | (simp), ?_⟩
    repeat' (first | (with_reducible exact Below.refl _ _) | (with_reducible assumption) | (with_reducible refine Below.alloc ?_ ?_ _) | (with_reducible refine Below.drew ?_) | (with_reducible refine bdrewN ?_ _) | (with_reducible refine Below.setCell ?_ ?_ _) | (with_reducible refine bthen ?_ (by assumption) ?_) | go_size)
  · skip
    have bd := inB_iff.1 hd
    cases hp : inB p (-1000000) 1000000
    · have e : okS p d q = false := by simp [okS, hp]
      rw [e]; clear e
      have HD := Lib.hid hd
      have HP := Lib.hid hp
      clear hd hp
      go_enter Tryd.func44, Tryd.ntmps44
      go_wp2_with fail
      apply Calls.mono
      · with_reducible exact l00In_any _ _ _ true HD.out _
      rintro _ w1 ⟨rfl, hb_w1⟩
      obtain ⟨hc_w1, hf_w1, hs_w1⟩ := bcell hb_w1
      try simp at hs_w1
      have hz_w1_w0 : w.heap.size < w1.heap.size := by omega
      have hy_w1_w0 : w.heap.size ≤ w1.heap.size := by omega
      have hx_w1_w0 : ∀ n : Nat, w.heap.size < w1.heap.size + n := by intro n; omega
      have hv_w1_w0 : ∀ n : Nat, w.heap.size ≤ w1.heap.size + n := by intro n; omega
      go_wp2_with fail
      apply Calls.mono
      · with_reducible exact l00In_any _ _ _ false HP.out _
      rintro _ w2 ⟨rfl, hb_w2⟩
      obtain ⟨hc_w2, hf_w2, hs_w2⟩ := bcell hb_w2
      try simp at hs_w2
      have hz_w2_w0 : w.heap.size < w2.heap.size := by omega
      have hy_w2_w0 : w.heap.size ≤ w2.heap.size := by omega
      have hx_w2_w0 : ∀ n : Nat, w.heap.size < w2.heap.size + n := by intro n; omega
      have hv_w2_w0 : ∀ n : Nat, w.heap.size ≤ w2.heap.size + n := by intro n; omega
      go_wp2
      go_ret
      refine ⟨by first | rfl | (simp), ?_⟩
      repeat' (first | (with_reducible exact Below.refl _ _) | (with_reducible assumption) | (with_reducible refine Below.alloc ?_ ?_ _) | (with_reducible refine Below.drew ?_) | (with_reducible refine bdrewN ?_ _) | (with_reducible refine Below.setCell ?_ ?_ _) | (with_reducible refine bthen ?_ (by assumption) ?_) | go_size)
    · skip
      have bp := sq6 hp
      cases hq : inB q (-1000000) 1000000
      · have e : okS p d q = false := by simp [okS, hq]
        rw [e]; clear e
        have HD := Lib.hid hd
        have HP := Lib.hid hp
        have HQ := Lib.hid hq
        clear hd hp hq
        go_enter Tryd.func44, Tryd.ntmps44
        go_wp2_with fail
        apply Calls.mono
        · with_reducible exact l00In_any _ _ _ true HD.out _
        rintro _ w1 ⟨rfl, hb_w1⟩
        obtain ⟨hc_w1, hf_w1, hs_w1⟩ := bcell hb_w1
        try simp at hs_w1
        have hz_w1_w0 : w.heap.size < w1.heap.size := by omega
        have hy_w1_w0 : w.heap.size ≤ w1.heap.size := by omega
        have hx_w1_w0 : ∀ n : Nat, w.heap.size < w1.heap.size + n := by intro n; omega
        have hv_w1_w0 : ∀ n : Nat, w.heap.size ≤ w1.heap.size + n := by intro n; omega
        go_wp2_with fail
        apply Calls.mono
        · with_reducible exact l00In_any _ _ _ true HP.out _
        rintro _ w2 ⟨rfl, hb_w2⟩
        obtain ⟨hc_w2, hf_w2, hs_w2⟩ := bcell hb_w2
        try simp at hs_w2
        have hz_w2_w0 : w.heap.size < w2.heap.size := by omega
        have hy_w2_w0 : w.heap.size ≤ w2.heap.size := by omega
        have hx_w2_w0 : ∀ n : Nat, w.heap.size < w2.heap.size + n := by intro n; omega
        have hv_w2_w0 : ∀ n : Nat, w.heap.size ≤ w2.heap.size + n := by intro n; omega
        go_wp2_with fail
        apply Calls.mono
        · with_reducible exact l00In_any _ _ _ false HQ.out _
        rintro _ w3 ⟨rfl, hb_w3⟩
        obtain ⟨hc_w3, hf_w3, hs_w3⟩ := bcell hb_w3
        try simp at hs_w3
        have hz_w3_w0 : w.heap.size < w3.heap.size := by omega
        have hy_w3_w0 : w.heap.size ≤ w3.heap.size := by omega
        have hx_w3_w0 : ∀ n : Nat, w.heap.size < w3.heap.size + n := by intro n; omega
        have hv_w3_w0 : ∀ n : Nat, w.heap.size ≤ w3.heap.size + n := by intro n; omega
        go_wp2
        go_ret
        refine ⟨by first | rfl | (simp), ?_⟩
        repeat' (first | (with_reducible exact Below.refl _ _) | (with_reducible assumption) | (with_reducible refine Below.alloc ?_ ?_ _) | (with_reducible refine Below.drew ?_) | (with_reducible refine bdrewN ?_ _) | (with_reducible refine Below.setCell ?_ ?_ _) | (with_reducible refine bthen ?_ (by assumption) ?_) | go_size)
      · skip
        have bq := inB_iff.1 hq
        by_cases h0 : q = 0
        · have e : okS p d q = false := by simp [okS, h0]
          rw [e]; clear e
          subst h0
          have HD := Lib.hid hd
          have HP := Lib.hid hp
          have HQ := Lib.hid hq
          clear hd hp hq
          go_enter Tryd.func44, Tryd.ntmps44
          go_wp2_with fail
          apply Calls.mono
          · with_reducible exact l00In_any _ _ _ true HD.out _
          rintro _ w1 ⟨rfl, hb_w1⟩
          obtain ⟨hc_w1, hf_w1, hs_w1⟩ := bcell hb_w1
          try simp at hs_w1
          have hz_w1_w0 : w.heap.size < w1.heap.size := by omega
          have hy_w1_w0 : w.heap.size ≤ w1.heap.size := by omega
          have hx_w1_w0 : ∀ n : Nat, w.heap.size < w1.heap.size + n := by intro n; omega
          have hv_w1_w0 : ∀ n : Nat, w.heap.size ≤ w1.heap.size + n := by intro n; omega
          go_wp2_with fail
          apply Calls.mono
          · with_reducible exact l00In_any _ _ _ true HP.out _
          rintro _ w2 ⟨rfl, hb_w2⟩
          obtain ⟨hc_w2, hf_w2, hs_w2⟩ := bcell hb_w2
          try simp at hs_w2
          have hz_w2_w0 : w.heap.size < w2.heap.size := by omega
          have hy_w2_w0 : w.heap.size ≤ w2.heap.size := by omega
          have hx_w2_w0 : ∀ n : Nat, w.heap.size < w2.heap.size + n := by intro n; omega
          have hv_w2_w0 : ∀ n : Nat, w.heap.size ≤ w2.heap.size + n := by intro n; omega
          go_wp2_with fail
          apply Calls.mono
          · with_reducible exact l00In_any _ _ _ true HQ.out _
          rintro _ w3 ⟨rfl, hb_w3⟩
          obtain ⟨hc_w3, hf_w3, hs_w3⟩ := bcell hb_w3
          try simp at hs_w3
          have hz_w3_w0 : w.heap.size < w3.heap.size := by omega
          have hy_w3_w0 : w.heap.size ≤ w3.heap.size := by omega
          have hx_w3_w0 : ∀ n : Nat, w.heap.size < w3.heap.size + n := by intro n; omega
          have hv_w3_w0 : ∀ n : Nat, w.heap.size ≤ w3.heap.size + n := by intro n; omega
          go_wp2
          go_ret
          refine ⟨by first | rfl | (simp), ?_⟩
          repeat' (first | (with_reducible exact Below.refl _ _) | (with_reducible assumption) | (with_reducible refine Below.alloc ?_ ?_ _) | (with_reducible refine Below.drew ?_) | (with_reducible refine bdrewN ?_ _) | (with_reducible refine Below.setCell ?_ ?_ _) | (with_reducible refine bthen ?_ (by assumption) ?_) | go_size)
        · have e0 : (q != 0) = true := by simp [h0]
          have e1 : (q == 0) = false := by simp [h0]
          cases hs : sqB d
          rotate_left
          · have e : okS p d q = false := by simp [okS, hs]
            rw [e]; clear e
            have HD := Lib.hid hd
            have HP := Lib.hid hp
            have HQ := Lib.hid hq
            have HS := Lib.hid hs
            clear hd hp hq hs
            go_enter Tryd.func44, Tryd.ntmps44
            go_wp2_with fail
            apply Calls.mono
            · with_reducible exact l00In_any _ _ _ true HD.out _
            rintro _ w1 ⟨rfl, hb_w1⟩
            obtain ⟨hc_w1, hf_w1, hs_w1⟩ := bcell hb_w1
            try simp at hs_w1
            have hz_w1_w0 : w.heap.size < w1.heap.size := by omega
            have hy_w1_w0 : w.heap.size ≤ w1.heap.size := by omega
            have hx_w1_w0 : ∀ n : Nat, w.heap.size < w1.heap.size + n := by intro n; omega
            have hv_w1_w0 : ∀ n : Nat, w.heap.size ≤ w1.heap.size + n := by intro n; omega
            go_wp2_with fail
            apply Calls.mono
            · with_reducible exact l00In_any _ _ _ true HP.out _
            rintro _ w2 ⟨rfl, hb_w2⟩
            obtain ⟨hc_w2, hf_w2, hs_w2⟩ := bcell hb_w2
            try simp at hs_w2
            have hz_w2_w0 : w.heap.size < w2.heap.size := by omega
            have hy_w2_w0 : w.heap.size ≤ w2.heap.size := by omega
            have hx_w2_w0 : ∀ n : Nat, w.heap.size < w2.heap.size + n := by intro n; omega
            have hv_w2_w0 : ∀ n : Nat, w.heap.size ≤ w2.heap.size + n := by intro n; omega
            go_wp2_with fail
            apply Calls.mono
            · with_reducible exact l00In_any _ _ _ true HQ.out _
            rintro _ w3 ⟨rfl, hb_w3⟩
            obtain ⟨hc_w3, hf_w3, hs_w3⟩ := bcell hb_w3
            try simp at hs_w3
            have hz_w3_w0 : w.heap.size < w3.heap.size := by omega
            have hy_w3_w0 : w.heap.size ≤ w3.heap.size := by omega
            have hx_w3_w0 : ∀ n : Nat, w.heap.size < w3.heap.size + n := by intro n; omega
            have hv_w3_w0 : ∀ n : Nat, w.heap.size ≤ w3.heap.size + n := by intro n; omega
            go_wp2_with fail
            apply Calls.mono
            · with_reducible exact l07Square_any _ (by omega) (by omega) true HS.out _
            rintro _ w4 ⟨rfl, hb_w4⟩
            obtain ⟨hc_w4, hf_w4, hs_w4⟩ := bcell hb_w4
            try simp at hs_w4
            have hz_w4_w0 : w.heap.size < w4.heap.size := by omega
            have hy_w4_w0 : w.heap.size ≤ w4.heap.size := by omega
            have hx_w4_w0 : ∀ n : Nat, w.heap.size < w4.heap.size + n := by intro n; omega
            have hv_w4_w0 : ∀ n : Nat, w.heap.size ≤ w4.heap.size + n := by intro n; omega
            go_wp2
            go_ret
            refine ⟨by first | rfl | (simp), ?_⟩
            repeat' (first | (with_reducible exact Below.refl _ _) | (with_reducible assumption) | (with_reducible refine Below.alloc ?_ ?_ _) | (with_reducible refine Below.drew ?_) | (with_reducible refine bdrewN ?_ _) | (with_reducible refine Below.setCell ?_ ?_ _) | (with_reducible refine bthen ?_ (by assumption) ?_) | go_size)
          · skip
            have e : okS p d q = ((d - p * p).tmod q == 0) := by simp [okS, hd, hs, hp, hq, e0]
            rw [e]; clear e
            have HD := Lib.hid hd
            have HP := Lib.hid hp
            have HQ := Lib.hid hq
            have HS := Lib.hid hs
            clear hd hp hq hs
            go_enter Tryd.func44, Tryd.ntmps44
            go_wp2_with fail
            apply Calls.mono
            · with_reducible exact l00In_any _ _ _ true HD.out _
            rintro _ w1 ⟨rfl, hb_w1⟩
            obtain ⟨hc_w1, hf_w1, hs_w1⟩ := bcell hb_w1
            try simp at hs_w1
            have hz_w1_w0 : w.heap.size < w1.heap.size := by omega
            have hy_w1_w0 : w.heap.size ≤ w1.heap.size := by omega
            have hx_w1_w0 : ∀ n : Nat, w.heap.size < w1.heap.size + n := by intro n; omega
            have hv_w1_w0 : ∀ n : Nat, w.heap.size ≤ w1.heap.size + n := by intro n; omega
            go_wp2_with fail
            apply Calls.mono
            · with_reducible exact l00In_any _ _ _ true HP.out _
            rintro _ w2 ⟨rfl, hb_w2⟩
            obtain ⟨hc_w2, hf_w2, hs_w2⟩ := bcell hb_w2
            try simp at hs_w2
            have hz_w2_w0 : w.heap.size < w2.heap.size := by omega
            have hy_w2_w0 : w.heap.size ≤ w2.heap.size := by omega
            have hx_w2_w0 : ∀ n : Nat, w.heap.size < w2.heap.size + n := by intro n; omega
            have hv_w2_w0 : ∀ n : Nat, w.heap.size ≤ w2.heap.size + n := by intro n; omega
            go_wp2_with fail
            apply Calls.mono
            · with_reducible exact l00In_any _ _ _ true HQ.out _
            rintro _ w3 ⟨rfl, hb_w3⟩
            obtain ⟨hc_w3, hf_w3, hs_w3⟩ := bcell hb_w3
            try simp at hs_w3
            have hz_w3_w0 : w.heap.size < w3.heap.size := by omega
            have hy_w3_w0 : w.heap.size ≤ w3.heap.size := by omega
            have hx_w3_w0 : ∀ n : Nat, w.heap.size < w3.heap.size + n := by intro n; omega
            have hv_w3_w0 : ∀ n : Nat, w.heap.size ≤ w3.heap.size + n := by intro n; omega
            go_wp2_with fail
            apply Calls.mono
            · with_reducible exact l07Square_any _ (by omega) (by omega) false HS.out _
            rintro _ w4 ⟨rfl, hb_w4⟩
            obtain ⟨hc_w4, hf_w4, hs_w4⟩ := bcell hb_w4
            try simp at hs_w4
            have hz_w4_w0 : w.heap.size < w4.heap.size := by omega
            have hy_w4_w0 : w.heap.size ≤ w4.heap.size := by omega
            have hx_w4_w0 : ∀ n : Nat, w.heap.size < w4.heap.size + n := by intro n; omega
            have hv_w4_w0 : ∀ n : Nat, w.heap.size ≤ w4.heap.size + n := by intro n; omega
            go_wp2
            go_ret
            refine ⟨by first | rfl | (simp), ?_⟩
            repeat' (first | (with_reducible exact Below.refl _ _) | (with_reducible assumption) | (with_reducible refine Below.alloc ?_ ?_ _) | (with_reducible refine Below.drew ?_) | (with_reducible refine bdrewN ?_ _) | (with_reducible refine Below.setCell ?_ ?_ _) | (with_reducible refine bthen ?_ (by assumption) ?_) | go_size)
theorem validSurdS_any (p d q : Int) (w : World) : Calls Tryd.prog 11 #[.agg #[.int .i64 p, .int .i64 d, .int .i64 q]] w (Ret w (.bool (okS p d q))) := by
  go_enter Tryd.func11, Tryd.ntmps11
  go_wp2_with fail
  apply Calls.mono
  · with_reducible exact l07Ok_any _ _ _ _ rfl _
  rintro _ w1 ⟨rfl, hb_w1⟩
  obtain ⟨hc_w1, hf_w1, hs_w1⟩ := bcell hb_w1
  try simp at hs_w1
  have hz_w1_w0 : w.heap.size < w1.heap.size := by omega
  have hy_w1_w0 : w.heap.size ≤ w1.heap.size := by omega
  have hx_w1_w0 : ∀ n : Nat, w.heap.size < w1.heap.size + n := by intro n; omega
  have hv_w1_w0 : ∀ n : Nat, w.heap.size ≤ w1.heap.size + n := by intro n; omega
  go_wp2
  go_ret
  refine ⟨by first | rfl | (simp), ?_⟩
  repeat' (first | (with_reducible exact Below.refl _ _) | (with_reducible assumption) | (with_reducible refine Below.alloc ?_ ?_ _) | (with_reducible refine Below.drew ?_) | (with_reducible refine bdrewN ?_ _) | (with_reducible refine Below.setCell ?_ ?_ _) | (with_reducible refine bthen ?_ (by assumption) ?_) | go_size)
theorem eqSurd_same (p d q : Int) (w : World) :
    Calls Tryd.prog 36 #[.agg #[.int .i64 p, .int .i64 d, .int .i64 q], .agg #[.int .i64 p, .int .i64 d, .int .i64 q]] w (Ret w (.bool true)) := by
  go_enter Tryd.func36, Tryd.ntmps36
  go_wp2
  go_ret
  refine ⟨by first | rfl | (simp), ?_⟩
  repeat' (first | (with_reducible exact Below.refl _ _) | (with_reducible assumption) | (with_reducible refine Below.alloc ?_ ?_ _) | (with_reducible refine Below.drew ?_) | (with_reducible refine bdrewN ?_ _) | (with_reducible refine Below.setCell ?_ ?_ _) | (with_reducible refine bthen ?_ (by assumption) ?_) | go_size)
theorem neg_div {x m : Int} (hm : 1 ≤ m) : (-x - 1) / m = -(x / m) - 1 := by
  have h1 := Int.mul_ediv_add_emod x m
  have h2 := Int.emod_nonneg x (show m ≠ 0 by omega)
  have h3 := Int.emod_lt_of_pos x (show 0 < m by omega)
  generalize x / m = a at *
  generalize x % m = b at *
  apply Int.le_antisymm
  · have : (-x - 1) / m < -a := Int.ediv_lt_of_lt_mul (by omega) (by rw [Int.neg_mul, Int.mul_comm a m]; omega)
    omega
  · apply Int.le_ediv_of_mul_le (by omega)
    rw [Int.sub_mul, Int.neg_mul, Int.mul_comm a m]; omega
theorem div_small {x m B : Int} (hm : 1 ≤ m) (h1 : -B ≤ x) (h2 : x ≤ B) : -B ≤ x / m ∧ x / m ≤ B := by
  constructor
  · apply Int.le_ediv_of_mul_le (by omega)
    rcases Int.le_total 0 B with h | h
    · have := Int.mul_le_mul_of_nonneg_left hm h
      rw [Int.neg_mul]; omega
    · have : B = 0 := by omega
      subst this; omega
  · have : x / m < B + 1 := by
      apply Int.ediv_lt_of_lt_mul (by omega)
      have := Int.mul_le_mul_of_nonneg_left hm (show 0 ≤ B + 1 by omega)
      omega
    omega
/-- The whole part of a surd. -/
def flS (p d q : Int) : Int := if q > 0 then (p + (isq d.toNat : Nat)) / q else (p + (isq d.toNat : Nat)) / q - 1
theorem isq_small (k : Nat) (h : k ≤ 1000000) : isq k ≤ 1000 := by
  have h3 := (isq_spec k (by omega)).1
  have := @sq_lt (isq k) 1001 (by omega)
  omega
theorem flS_bd {p d q : Int} (h : okS p d q = true) : -1002000 ≤ flS p d q ∧ flS p d q ≤ 1002000 := by
  obtain ⟨a1, a2, a3, a4, a5, a6, a7, _⟩ := okS_bd h
  have hi := isq_small d.toNat (by omega)
  unfold flS
  split
  · have := @div_small (p + (isq d.toNat : Nat)) q 1001000 (by omega) (by omega) (by omega); omega
  · have := @div_small (p + (isq d.toNat : Nat)) (-q) 1001000 (by omega) (by omega) (by omega)
    rw [Int.ediv_neg] at this
    omega
set_option maxHeartbeats 1000000 in
theorem floorSurd_any (p d q : Int) (h : okS p d q = true) (r : Int) (hr : flS p d q = r) (w : World) : Calls Tryd.prog 61 #[.agg #[.int .i64 p, .int .i64 d, .int .i64 q]] w (Ret w (.int .i64 r)) := by
  obtain ⟨a1, a2, a3, a4, a5, a6, a7, _, _⟩ := okS_bd h
  clear h
  obtain ⟨k, rfl⟩ := Int.eq_ofNat_of_zero_le (show 0 ≤ d by omega)
  have hi := isq_small k (by omega)
  unfold flS at hr
  rw [Int.toNat_natCast] at hr
  by_cases hq : q > 0
  · rw [if_pos hq] at hr
    subst hr
    go_enter Tryd.func61, Tryd.ntmps61
    go_wp2_with fail
    apply Calls.mono
    · with_reducible exact root_any k (by omega) _ rfl _
    rintro _ w1 ⟨rfl, hb_w1⟩
    obtain ⟨hc_w1, hf_w1, hs_w1⟩ := bcell hb_w1
    try simp at hs_w1
    have hz_w1_w0 : w.heap.size < w1.heap.size := by omega
    have hy_w1_w0 : w.heap.size ≤ w1.heap.size := by omega
    have hx_w1_w0 : ∀ n : Nat, w.heap.size < w1.heap.size + n := by intro n; omega
    have hv_w1_w0 : ∀ n : Nat, w.heap.size ≤ w1.heap.size + n := by intro n; omega
    go_wp2_with fail
    apply Calls.mono
    · with_reducible exact floorDiv_any _ _ (by omega) (by omega) (by omega) (by omega) _
    rintro _ w2 ⟨rfl, hb_w2⟩
    obtain ⟨hc_w2, hf_w2, hs_w2⟩ := bcell hb_w2
    try simp at hs_w2
    have hz_w2_w0 : w.heap.size < w2.heap.size := by omega
    have hy_w2_w0 : w.heap.size ≤ w2.heap.size := by omega
    have hx_w2_w0 : ∀ n : Nat, w.heap.size < w2.heap.size + n := by intro n; omega
    have hv_w2_w0 : ∀ n : Nat, w.heap.size ≤ w2.heap.size + n := by intro n; omega
    go_wp2
    go_ret
    refine ⟨by first | rfl | (simp), ?_⟩
    repeat' (first | (with_reducible exact Below.refl _ _) | (with_reducible assumption) | (with_reducible refine Below.alloc ?_ ?_ _) | (with_reducible refine Below.drew ?_) | (with_reducible refine bdrewN ?_ _) | (with_reducible refine Below.setCell ?_ ?_ _) | (with_reducible refine bthen ?_ (by assumption) ?_) | go_size)
  · rw [if_neg hq] at hr
    have hd := @div_small (p + (isq k : Nat)) (-q) 1001000 (by omega) (by omega) (by omega)
    rw [Int.ediv_neg] at hd
    skip
    subst hr
    go_enter Tryd.func61, Tryd.ntmps61
    go_wp2_with fail
    apply Calls.mono
    · with_reducible exact root_any k (by omega) _ rfl _
    rintro _ w1 ⟨rfl, hb_w1⟩
    obtain ⟨hc_w1, hf_w1, hs_w1⟩ := bcell hb_w1
    try simp at hs_w1
    have hz_w1_w0 : w.heap.size < w1.heap.size := by omega
    have hy_w1_w0 : w.heap.size ≤ w1.heap.size := by omega
    have hx_w1_w0 : ∀ n : Nat, w.heap.size < w1.heap.size + n := by intro n; omega
    have hv_w1_w0 : ∀ n : Nat, w.heap.size ≤ w1.heap.size + n := by intro n; omega
    go_wp2_with fail
    apply Calls.mono
    · with_reducible exact floorDiv_any _ _ (by omega) (by omega) (by omega) (by omega) _
    rintro _ w2 ⟨rfl, hb_w2⟩
    obtain ⟨hc_w2, hf_w2, hs_w2⟩ := bcell hb_w2
    try simp at hs_w2
    have hz_w2_w0 : w.heap.size < w2.heap.size := by omega
    have hy_w2_w0 : w.heap.size ≤ w2.heap.size := by omega
    have hx_w2_w0 : ∀ n : Nat, w.heap.size < w2.heap.size + n := by intro n; omega
    have hv_w2_w0 : ∀ n : Nat, w.heap.size ≤ w2.heap.size + n := by intro n; omega
    go_wp2
    go_ret
    refine ⟨by first | rfl | (simp), ?_⟩
    repeat' (first | (with_reducible exact Below.refl _ _) | (with_reducible assumption) | (with_reducible refine Below.alloc ?_ ?_ _) | (with_reducible refine Below.drew ?_) | (with_reducible refine bdrewN ?_ _) | (with_reducible refine Below.setCell ?_ ?_ _) | (with_reducible refine bthen ?_ (by assumption) ?_) | go_size)
set_option maxHeartbeats 1000000 in
theorem l07Floor_any (p d q : Int) (h : okS p d q = true) (r : Int) (hr : flS p d q = r) (w : World) : Calls Tryd.prog 47 #[.agg #[.int .i64 p, .int .i64 d, .int .i64 q]] w (Ret w (.int .i64 r)) := by
  obtain ⟨a1, a2, a3, a4, a5, a6, a7, _, _⟩ := okS_bd h
  clear h
  obtain ⟨k, rfl⟩ := Int.eq_ofNat_of_zero_le (show 0 ≤ d by omega)
  have hi := isq_small k (by omega)
  unfold flS at hr
  rw [Int.toNat_natCast] at hr
  by_cases hq : q > 0
  · rw [if_pos hq] at hr
    subst hr
    go_enter Tryd.func47, Tryd.ntmps47
    go_wp2_with fail
    apply Calls.mono
    · with_reducible exact l07Root_any k (by omega) _ rfl _
    rintro _ w1 ⟨rfl, hb_w1⟩
    obtain ⟨hc_w1, hf_w1, hs_w1⟩ := bcell hb_w1
    try simp at hs_w1
    have hz_w1_w0 : w.heap.size < w1.heap.size := by omega
    have hy_w1_w0 : w.heap.size ≤ w1.heap.size := by omega
    have hx_w1_w0 : ∀ n : Nat, w.heap.size < w1.heap.size + n := by intro n; omega
    have hv_w1_w0 : ∀ n : Nat, w.heap.size ≤ w1.heap.size + n := by intro n; omega
    go_wp2_with fail
    apply Calls.mono
    · with_reducible exact l02Floor_any _ _ (by omega) (by omega) (by omega) (by omega) _
    rintro _ w2 ⟨rfl, hb_w2⟩
    obtain ⟨hc_w2, hf_w2, hs_w2⟩ := bcell hb_w2
    try simp at hs_w2
    have hz_w2_w0 : w.heap.size < w2.heap.size := by omega
    have hy_w2_w0 : w.heap.size ≤ w2.heap.size := by omega
    have hx_w2_w0 : ∀ n : Nat, w.heap.size < w2.heap.size + n := by intro n; omega
    have hv_w2_w0 : ∀ n : Nat, w.heap.size ≤ w2.heap.size + n := by intro n; omega
    go_wp2
    go_ret
    refine ⟨by first | rfl | (simp), ?_⟩
    repeat' (first | (with_reducible exact Below.refl _ _) | (with_reducible assumption) | (with_reducible refine Below.alloc ?_ ?_ _) | (with_reducible refine Below.drew ?_) | (with_reducible refine bdrewN ?_ _) | (with_reducible refine Below.setCell ?_ ?_ _) | (with_reducible refine bthen ?_ (by assumption) ?_) | go_size)
  · rw [if_neg hq] at hr
    have hd := @div_small (p + (isq k : Nat)) (-q) 1001000 (by omega) (by omega) (by omega)
    rw [Int.ediv_neg] at hd
    have e3 : (p + (isq k : Nat)) / q - 1 = (-p - (isq k : Nat) - 1) / (-q) := by
      have e4 : -p - (isq k : Nat) - 1 = -(p + (isq k : Nat)) - 1 := by omega
      rw [e4, neg_div (show 1 ≤ -q by omega), Int.ediv_neg]; omega
    rw [e3] at hr; clear e3
    subst hr
    go_enter Tryd.func47, Tryd.ntmps47
    go_wp2_with fail
    apply Calls.mono
    · with_reducible exact l07Root_any k (by omega) _ rfl _
    rintro _ w1 ⟨rfl, hb_w1⟩
    obtain ⟨hc_w1, hf_w1, hs_w1⟩ := bcell hb_w1
    try simp at hs_w1
    have hz_w1_w0 : w.heap.size < w1.heap.size := by omega
    have hy_w1_w0 : w.heap.size ≤ w1.heap.size := by omega
    have hx_w1_w0 : ∀ n : Nat, w.heap.size < w1.heap.size + n := by intro n; omega
    have hv_w1_w0 : ∀ n : Nat, w.heap.size ≤ w1.heap.size + n := by intro n; omega
    go_wp2_with fail
    apply Calls.mono
    · with_reducible exact l02Floor_any _ _ (by omega) (by omega) (by omega) (by omega) _
    rintro _ w2 ⟨rfl, hb_w2⟩
    obtain ⟨hc_w2, hf_w2, hs_w2⟩ := bcell hb_w2
    try simp at hs_w2
    have hz_w2_w0 : w.heap.size < w2.heap.size := by omega
    have hy_w2_w0 : w.heap.size ≤ w2.heap.size := by omega
    have hx_w2_w0 : ∀ n : Nat, w.heap.size < w2.heap.size + n := by intro n; omega
    have hv_w2_w0 : ∀ n : Nat, w.heap.size ≤ w2.heap.size + n := by intro n; omega
    go_wp2
    go_ret
    refine ⟨by first | rfl | (simp), ?_⟩
    repeat' (first | (with_reducible exact Below.refl _ _) | (with_reducible assumption) | (with_reducible refine Below.alloc ?_ ?_ _) | (with_reducible refine Below.drew ?_) | (with_reducible refine bdrewN ?_ _) | (with_reducible refine Below.setCell ?_ ?_ _) | (with_reducible refine bthen ?_ (by assumption) ?_) | go_size)
def flM (p d q : Int) : Int × Int := if okS p d q then (flS p d q, 0) else (0, 1)
theorem floorSurdI_any (p d q : Int) (w : World) : Calls Tryd.prog 26 #[.agg #[.int .i64 p, .int .i64 d, .int .i64 q]] w (Ret w (.tuple #[.int .i64 (flM p d q).1, .int .i64 (flM p d q).2])) := by
  cases h : okS p d q
  · have e : flM p d q = (0, 1) := by simp [flM, h]
    rw [e]; clear e
    have H := Lib.hid h
    clear h
    go_enter Tryd.func26, Tryd.ntmps26
    go_wp2_with fail
    apply Calls.mono
    · with_reducible exact validSurd_any _ _ _ false H.out _
    rintro _ w1 ⟨rfl, hb_w1⟩
    obtain ⟨hc_w1, hf_w1, hs_w1⟩ := bcell hb_w1
    try simp at hs_w1
    have hz_w1_w0 : w.heap.size < w1.heap.size := by omega
    have hy_w1_w0 : w.heap.size ≤ w1.heap.size := by omega
    have hx_w1_w0 : ∀ n : Nat, w.heap.size < w1.heap.size + n := by intro n; omega
    have hv_w1_w0 : ∀ n : Nat, w.heap.size ≤ w1.heap.size + n := by intro n; omega
    go_wp2
    go_ret2
    refine ⟨by first | rfl | (simp), ?_⟩
    repeat' (first | (with_reducible exact Below.refl _ _) | (with_reducible assumption) | (with_reducible refine Below.alloc ?_ ?_ _) | (with_reducible refine Below.drew ?_) | (with_reducible refine bdrewN ?_ _) | (with_reducible refine Below.setCell ?_ ?_ _) | (with_reducible refine bthen ?_ (by assumption) ?_) | go_size)
  · have e : flM p d q = (flS p d q, 0) := by simp [flM, h]
    rw [e]; clear e
    have H := Lib.hid h
    clear h
    go_enter Tryd.func26, Tryd.ntmps26
    go_wp2_with fail
    apply Calls.mono
    · with_reducible exact validSurd_any _ _ _ true H.out _
    rintro _ w1 ⟨rfl, hb_w1⟩
    obtain ⟨hc_w1, hf_w1, hs_w1⟩ := bcell hb_w1
    try simp at hs_w1
    have hz_w1_w0 : w.heap.size < w1.heap.size := by omega
    have hy_w1_w0 : w.heap.size ≤ w1.heap.size := by omega
    have hx_w1_w0 : ∀ n : Nat, w.heap.size < w1.heap.size + n := by intro n; omega
    have hv_w1_w0 : ∀ n : Nat, w.heap.size ≤ w1.heap.size + n := by intro n; omega
    go_wp2_with fail
    apply Calls.mono
    · with_reducible exact floorSurd_any _ _ _ H.out _ rfl _
    rintro _ w2 ⟨rfl, hb_w2⟩
    obtain ⟨hc_w2, hf_w2, hs_w2⟩ := bcell hb_w2
    try simp at hs_w2
    have hz_w2_w0 : w.heap.size < w2.heap.size := by omega
    have hy_w2_w0 : w.heap.size ≤ w2.heap.size := by omega
    have hx_w2_w0 : ∀ n : Nat, w.heap.size < w2.heap.size + n := by intro n; omega
    have hv_w2_w0 : ∀ n : Nat, w.heap.size ≤ w2.heap.size + n := by intro n; omega
    go_wp2
    go_ret2
    refine ⟨by first | rfl | (simp), ?_⟩
    repeat' (first | (with_reducible exact Below.refl _ _) | (with_reducible assumption) | (with_reducible refine Below.alloc ?_ ?_ _) | (with_reducible refine Below.drew ?_) | (with_reducible refine bdrewN ?_ _) | (with_reducible refine Below.setCell ?_ ?_ _) | (with_reducible refine bthen ?_ (by assumption) ?_) | go_size)
end Go.Proofs.YtibbokllongomaaDoor
