/-
  The functions on Farey sequences that return the sequence, one of its elements, or the code of an order and a fraction.
-/
import Derived.Test.YtlmmpeeacjbobaaFarey
import Derived.Test.YtlmmpeeacjbobaaFrac2
namespace Go.Proofs.Ytlmmpeeacjbobaa
open Go.RowKit

/-- A call returns a new row of these cells, and a code. -/
def RetRow2 (w : World) (e : TypeId) (size n : Nat) (xs : List Value) (code : Int) (en : Ending) (w' : World) : Prop := ∃ v, en = .returned (.tuple #[v, .int .i64 code]) ∧ w'.ownsRow w.heap.size e size v n xs ∧ Below w.heap.size w w'
def seqM (N : Int) : List (Int × Int) × Int := if inB N 1 40 then (farL N, 0) else ([], 2)
theorem farL_len {N : Int} (h1 : 1 ≤ N) (h2 : N ≤ 40) : 1 ≤ (farL N).length ∧ (farL N).length ≤ 600 := by
  have := (far_facts h1 h2).2.2.2
  simp only [farL, List.length_cons]
  omega

theorem l06Order_any (N : Int) (r : Bool) (hr : inB N 1 40 = r) (w : World) : Calls Try.prog 120 #[.int .i64 N] w (Ret w (.bool r)) := by
  have HR := Lib.hid hr
  clear hr
  go_enter Try.func120, Try.ntmps120
  go_wp2_with fail
  apply Calls.mono
  · with_reducible exact l00In_any _ _ _ _ HR.out _
  rintro _ w1 ⟨rfl, hb_w1⟩
  obtain ⟨hc_w1, hf_w1, hs_w1⟩ := bcell hb_w1
  try simp at hs_w1
  go_wp2
  go_ret
  refine ⟨by first | rfl | (simp), ?_⟩
  repeat' (first | (with_reducible exact Below.refl _ _) | (with_reducible assumption) | (with_reducible refine Below.alloc ?_ ?_ _) | (with_reducible refine Below.drew ?_) | (with_reducible refine bdrewN ?_ _) | (with_reducible refine Below.setCell ?_ ?_ _) | (with_reducible refine bthen ?_ (by assumption) ?_) | go_size)
/-- FareyAt. -/
def atM (N k : Int) : Int × Int × Int := if inB N 1 40 then (if inB k 0 (((farL N).length : Int) - 1) then (((farL N).getD k.toNat (0, 0)).1, ((farL N).getD k.toNat (0, 0)).2, 0) else (0, 0, 3)) else (0, 0, 2)
/-- The code of an order and a fraction. -/
def chkM (N M n d : Int) : Int := if okF n d then (if inB N 1 M && (decide (0 ≤ n) && decide (n ≤ d)) then 0 else 2) else 1
set_option maxHeartbeats 400000 in
theorem checkFarey_any (N M n d : Int) (r : Int) (hr : chkM N M n d = r) (w : World) : Calls Try.prog 88 #[.int .i64 N, .int .i64 M, .agg #[.int .i64 n, .int .i64 d]] w (Ret w (.int .i64 r)) := by
  subst hr
  cases h1 : okF n d
  · have e : chkM N M n d = 1 := by simp [chkM, h1]
    rw [e]; clear e
    have H1 := Lib.hid h1
    clear h1
    go_enter Try.func88, Try.ntmps88
    go_wp2_with fail
    apply Calls.mono
    · with_reducible exact validFraction_any _ _ false H1.out _
    rintro _ w1 ⟨rfl, hb_w1⟩
    obtain ⟨hc_w1, hf_w1, hs_w1⟩ := bcell hb_w1
    try simp at hs_w1
    have hz_w1_w0 : w.heap.size < w1.heap.size := by omega
    have hy_w1_w0 : w.heap.size ≤ w1.heap.size := by omega
    have hx_w1_w0 : ∀ n : Nat, w.heap.size < w1.heap.size + n := by intro n; omega
    have hv_w1_w0 : ∀ n : Nat, w.heap.size ≤ w1.heap.size + n := by intro n; omega
    go_wp2
    go_ret
    refine ⟨by first | rfl | (simp), ?_⟩
    repeat' (first | (with_reducible exact Below.refl _ _) | (with_reducible assumption) | (with_reducible refine Below.alloc ?_ ?_ _) | (with_reducible refine Below.drew ?_) | (with_reducible refine bdrewN ?_ _) | (with_reducible refine Below.setCell ?_ ?_ _) | (with_reducible refine bthen ?_ (by assumption) ?_) | go_size)
  · have H1 := Lib.hid h1
    cases h2 : inB N 1 M
    · have e : chkM N M n d = 2 := by simp [chkM, h1, h2]
      rw [e]; clear e
      have H2 := Lib.hid h2
      clear h1 h2
      go_enter Try.func88, Try.ntmps88
      go_wp2_with fail
      apply Calls.mono
      · with_reducible exact validFraction_any _ _ true H1.out _
      rintro _ w1 ⟨rfl, hb_w1⟩
      obtain ⟨hc_w1, hf_w1, hs_w1⟩ := bcell hb_w1
      try simp at hs_w1
      have hz_w1_w0 : w.heap.size < w1.heap.size := by omega
      have hy_w1_w0 : w.heap.size ≤ w1.heap.size := by omega
      have hx_w1_w0 : ∀ n : Nat, w.heap.size < w1.heap.size + n := by intro n; omega
      have hv_w1_w0 : ∀ n : Nat, w.heap.size ≤ w1.heap.size + n := by intro n; omega
      go_wp2_with fail
      apply Calls.mono
      · with_reducible exact within_any _ _ _ false H2.out _
      rintro _ w2 ⟨rfl, hb_w2⟩
      obtain ⟨hc_w2, hf_w2, hs_w2⟩ := bcell hb_w2
      try simp at hs_w2
      have hz_w2_w0 : w.heap.size < w2.heap.size := by omega
      have hy_w2_w0 : w.heap.size ≤ w2.heap.size := by omega
      have hx_w2_w0 : ∀ n : Nat, w.heap.size < w2.heap.size + n := by intro n; omega
      have hv_w2_w0 : ∀ n : Nat, w.heap.size ≤ w2.heap.size + n := by intro n; omega
      go_wp2
      go_ret
      refine ⟨by first | rfl | (simp), ?_⟩
      repeat' (first | (with_reducible exact Below.refl _ _) | (with_reducible assumption) | (with_reducible refine Below.alloc ?_ ?_ _) | (with_reducible refine Below.drew ?_) | (with_reducible refine bdrewN ?_ _) | (with_reducible refine Below.setCell ?_ ?_ _) | (with_reducible refine bthen ?_ (by assumption) ?_) | go_size)
    · have H2 := Lib.hid h2
      by_cases h3 : n < 0
      · have e : chkM N M n d = 2 := by simp [chkM, h1, h2]; omega
        rw [e]; clear e
        clear h1 h2
        go_enter Try.func88, Try.ntmps88
        go_wp2_with fail
        apply Calls.mono
        · with_reducible exact validFraction_any _ _ true H1.out _
        rintro _ w1 ⟨rfl, hb_w1⟩
        obtain ⟨hc_w1, hf_w1, hs_w1⟩ := bcell hb_w1
        try simp at hs_w1
        have hz_w1_w0 : w.heap.size < w1.heap.size := by omega
        have hy_w1_w0 : w.heap.size ≤ w1.heap.size := by omega
        have hx_w1_w0 : ∀ n : Nat, w.heap.size < w1.heap.size + n := by intro n; omega
        have hv_w1_w0 : ∀ n : Nat, w.heap.size ≤ w1.heap.size + n := by intro n; omega
        go_wp2_with fail
        apply Calls.mono
        · with_reducible exact within_any _ _ _ true H2.out _
        rintro _ w2 ⟨rfl, hb_w2⟩
        obtain ⟨hc_w2, hf_w2, hs_w2⟩ := bcell hb_w2
        try simp at hs_w2
        have hz_w2_w0 : w.heap.size < w2.heap.size := by omega
        have hy_w2_w0 : w.heap.size ≤ w2.heap.size := by omega
        have hx_w2_w0 : ∀ n : Nat, w.heap.size < w2.heap.size + n := by intro n; omega
        have hv_w2_w0 : ∀ n : Nat, w.heap.size ≤ w2.heap.size + n := by intro n; omega
        go_wp2
        go_ret
        refine ⟨by first | rfl | (simp), ?_⟩
        repeat' (first | (with_reducible exact Below.refl _ _) | (with_reducible assumption) | (with_reducible refine Below.alloc ?_ ?_ _) | (with_reducible refine Below.drew ?_) | (with_reducible refine bdrewN ?_ _) | (with_reducible refine Below.setCell ?_ ?_ _) | (with_reducible refine bthen ?_ (by assumption) ?_) | go_size)
      · by_cases h4 : d < n
        · have e : chkM N M n d = 2 := by simp [chkM, h1, h2]; omega
          rw [e]; clear e
          clear h1 h2
          go_enter Try.func88, Try.ntmps88
          go_wp2_with fail
          apply Calls.mono
          · with_reducible exact validFraction_any _ _ true H1.out _
          rintro _ w1 ⟨rfl, hb_w1⟩
          obtain ⟨hc_w1, hf_w1, hs_w1⟩ := bcell hb_w1
          try simp at hs_w1
          have hz_w1_w0 : w.heap.size < w1.heap.size := by omega
          have hy_w1_w0 : w.heap.size ≤ w1.heap.size := by omega
          have hx_w1_w0 : ∀ n : Nat, w.heap.size < w1.heap.size + n := by intro n; omega
          have hv_w1_w0 : ∀ n : Nat, w.heap.size ≤ w1.heap.size + n := by intro n; omega
          go_wp2_with fail
          apply Calls.mono
          · with_reducible exact within_any _ _ _ true H2.out _
          rintro _ w2 ⟨rfl, hb_w2⟩
          obtain ⟨hc_w2, hf_w2, hs_w2⟩ := bcell hb_w2
          try simp at hs_w2
          have hz_w2_w0 : w.heap.size < w2.heap.size := by omega
          have hy_w2_w0 : w.heap.size ≤ w2.heap.size := by omega
          have hx_w2_w0 : ∀ n : Nat, w.heap.size < w2.heap.size + n := by intro n; omega
          have hv_w2_w0 : ∀ n : Nat, w.heap.size ≤ w2.heap.size + n := by intro n; omega
          go_wp2
          go_ret
          refine ⟨by first | rfl | (simp), ?_⟩
          repeat' (first | (with_reducible exact Below.refl _ _) | (with_reducible assumption) | (with_reducible refine Below.alloc ?_ ?_ _) | (with_reducible refine Below.drew ?_) | (with_reducible refine bdrewN ?_ _) | (with_reducible refine Below.setCell ?_ ?_ _) | (with_reducible refine bthen ?_ (by assumption) ?_) | go_size)
        · have e : chkM N M n d = 0 := by simp [chkM, h1, h2]; omega
          rw [e]; clear e
          clear h1 h2
          go_enter Try.func88, Try.ntmps88
          go_wp2_with fail
          apply Calls.mono
          · with_reducible exact validFraction_any _ _ true H1.out _
          rintro _ w1 ⟨rfl, hb_w1⟩
          obtain ⟨hc_w1, hf_w1, hs_w1⟩ := bcell hb_w1
          try simp at hs_w1
          have hz_w1_w0 : w.heap.size < w1.heap.size := by omega
          have hy_w1_w0 : w.heap.size ≤ w1.heap.size := by omega
          have hx_w1_w0 : ∀ n : Nat, w.heap.size < w1.heap.size + n := by intro n; omega
          have hv_w1_w0 : ∀ n : Nat, w.heap.size ≤ w1.heap.size + n := by intro n; omega
          go_wp2_with fail
          apply Calls.mono
          · with_reducible exact within_any _ _ _ true H2.out _
          rintro _ w2 ⟨rfl, hb_w2⟩
          obtain ⟨hc_w2, hf_w2, hs_w2⟩ := bcell hb_w2
          try simp at hs_w2
          have hz_w2_w0 : w.heap.size < w2.heap.size := by omega
          have hy_w2_w0 : w.heap.size ≤ w2.heap.size := by omega
          have hx_w2_w0 : ∀ n : Nat, w.heap.size < w2.heap.size + n := by intro n; omega
          have hv_w2_w0 : ∀ n : Nat, w.heap.size ≤ w2.heap.size + n := by intro n; omega
          go_wp2
          go_ret
          refine ⟨by first | rfl | (simp), ?_⟩
          repeat' (first | (with_reducible exact Below.refl _ _) | (with_reducible assumption) | (with_reducible refine Below.alloc ?_ ?_ _) | (with_reducible refine Below.drew ?_) | (with_reducible refine bdrewN ?_ _) | (with_reducible refine Below.setCell ?_ ?_ _) | (with_reducible refine bthen ?_ (by assumption) ?_) | go_size)
set_option maxHeartbeats 400000 in
theorem l06Code_any (N n d : Int) (r : Int) (hr : chkM N 10000 n d = r) (w : World) : Calls Try.prog 89 #[.int .i64 N, .agg #[.int .i64 n, .int .i64 d]] w (Ret w (.int .i64 r)) := by
  subst hr
  cases h1 : okF n d
  · have e : chkM N 10000 n d = 1 := by simp [chkM, h1]
    rw [e]; clear e
    have H1 := Lib.hid h1
    clear h1
    go_enter Try.func89, Try.ntmps89
    go_wp2_with fail
    apply Calls.mono
    · with_reducible exact l02Ok_any _ _ false H1.out _
    rintro _ w1 ⟨rfl, hb_w1⟩
    obtain ⟨hc_w1, hf_w1, hs_w1⟩ := bcell hb_w1
    try simp at hs_w1
    have hz_w1_w0 : w.heap.size < w1.heap.size := by omega
    have hy_w1_w0 : w.heap.size ≤ w1.heap.size := by omega
    have hx_w1_w0 : ∀ n : Nat, w.heap.size < w1.heap.size + n := by intro n; omega
    have hv_w1_w0 : ∀ n : Nat, w.heap.size ≤ w1.heap.size + n := by intro n; omega
    go_wp2
    go_ret
    refine ⟨by first | rfl | (simp), ?_⟩
    repeat' (first | (with_reducible exact Below.refl _ _) | (with_reducible assumption) | (with_reducible refine Below.alloc ?_ ?_ _) | (with_reducible refine Below.drew ?_) | (with_reducible refine bdrewN ?_ _) | (with_reducible refine Below.setCell ?_ ?_ _) | (with_reducible refine bthen ?_ (by assumption) ?_) | go_size)
  · have H1 := Lib.hid h1
    cases h2 : inB N 1 10000
    · have e : chkM N 10000 n d = 2 := by simp [chkM, h1, h2]
      rw [e]; clear e
      have H2 := Lib.hid h2
      clear h1 h2
      go_enter Try.func89, Try.ntmps89
      go_wp2_with fail
      apply Calls.mono
      · with_reducible exact l02Ok_any _ _ true H1.out _
      rintro _ w1 ⟨rfl, hb_w1⟩
      obtain ⟨hc_w1, hf_w1, hs_w1⟩ := bcell hb_w1
      try simp at hs_w1
      have hz_w1_w0 : w.heap.size < w1.heap.size := by omega
      have hy_w1_w0 : w.heap.size ≤ w1.heap.size := by omega
      have hx_w1_w0 : ∀ n : Nat, w.heap.size < w1.heap.size + n := by intro n; omega
      have hv_w1_w0 : ∀ n : Nat, w.heap.size ≤ w1.heap.size + n := by intro n; omega
      go_wp2_with fail
      apply Calls.mono
      · with_reducible exact l00In_any _ _ _ false H2.out _
      rintro _ w2 ⟨rfl, hb_w2⟩
      obtain ⟨hc_w2, hf_w2, hs_w2⟩ := bcell hb_w2
      try simp at hs_w2
      have hz_w2_w0 : w.heap.size < w2.heap.size := by omega
      have hy_w2_w0 : w.heap.size ≤ w2.heap.size := by omega
      have hx_w2_w0 : ∀ n : Nat, w.heap.size < w2.heap.size + n := by intro n; omega
      have hv_w2_w0 : ∀ n : Nat, w.heap.size ≤ w2.heap.size + n := by intro n; omega
      go_wp2
      go_ret
      refine ⟨by first | rfl | (simp), ?_⟩
      repeat' (first | (with_reducible exact Below.refl _ _) | (with_reducible assumption) | (with_reducible refine Below.alloc ?_ ?_ _) | (with_reducible refine Below.drew ?_) | (with_reducible refine bdrewN ?_ _) | (with_reducible refine Below.setCell ?_ ?_ _) | (with_reducible refine bthen ?_ (by assumption) ?_) | go_size)
    · have H2 := Lib.hid h2
      by_cases h3 : n < 0
      · have e : chkM N 10000 n d = 2 := by simp [chkM, h1, h2]; omega
        rw [e]; clear e
        clear h1 h2
        go_enter Try.func89, Try.ntmps89
        go_wp2_with fail
        apply Calls.mono
        · with_reducible exact l02Ok_any _ _ true H1.out _
        rintro _ w1 ⟨rfl, hb_w1⟩
        obtain ⟨hc_w1, hf_w1, hs_w1⟩ := bcell hb_w1
        try simp at hs_w1
        have hz_w1_w0 : w.heap.size < w1.heap.size := by omega
        have hy_w1_w0 : w.heap.size ≤ w1.heap.size := by omega
        have hx_w1_w0 : ∀ n : Nat, w.heap.size < w1.heap.size + n := by intro n; omega
        have hv_w1_w0 : ∀ n : Nat, w.heap.size ≤ w1.heap.size + n := by intro n; omega
        go_wp2_with fail
        apply Calls.mono
        · with_reducible exact l00In_any _ _ _ true H2.out _
        rintro _ w2 ⟨rfl, hb_w2⟩
        obtain ⟨hc_w2, hf_w2, hs_w2⟩ := bcell hb_w2
        try simp at hs_w2
        have hz_w2_w0 : w.heap.size < w2.heap.size := by omega
        have hy_w2_w0 : w.heap.size ≤ w2.heap.size := by omega
        have hx_w2_w0 : ∀ n : Nat, w.heap.size < w2.heap.size + n := by intro n; omega
        have hv_w2_w0 : ∀ n : Nat, w.heap.size ≤ w2.heap.size + n := by intro n; omega
        go_wp2
        go_ret
        refine ⟨by first | rfl | (simp), ?_⟩
        repeat' (first | (with_reducible exact Below.refl _ _) | (with_reducible assumption) | (with_reducible refine Below.alloc ?_ ?_ _) | (with_reducible refine Below.drew ?_) | (with_reducible refine bdrewN ?_ _) | (with_reducible refine Below.setCell ?_ ?_ _) | (with_reducible refine bthen ?_ (by assumption) ?_) | go_size)
      · by_cases h4 : d < n
        · have e : chkM N 10000 n d = 2 := by simp [chkM, h1, h2]; omega
          rw [e]; clear e
          clear h1 h2
          go_enter Try.func89, Try.ntmps89
          go_wp2_with fail
          apply Calls.mono
          · with_reducible exact l02Ok_any _ _ true H1.out _
          rintro _ w1 ⟨rfl, hb_w1⟩
          obtain ⟨hc_w1, hf_w1, hs_w1⟩ := bcell hb_w1
          try simp at hs_w1
          have hz_w1_w0 : w.heap.size < w1.heap.size := by omega
          have hy_w1_w0 : w.heap.size ≤ w1.heap.size := by omega
          have hx_w1_w0 : ∀ n : Nat, w.heap.size < w1.heap.size + n := by intro n; omega
          have hv_w1_w0 : ∀ n : Nat, w.heap.size ≤ w1.heap.size + n := by intro n; omega
          go_wp2_with fail
          apply Calls.mono
          · with_reducible exact l00In_any _ _ _ true H2.out _
          rintro _ w2 ⟨rfl, hb_w2⟩
          obtain ⟨hc_w2, hf_w2, hs_w2⟩ := bcell hb_w2
          try simp at hs_w2
          have hz_w2_w0 : w.heap.size < w2.heap.size := by omega
          have hy_w2_w0 : w.heap.size ≤ w2.heap.size := by omega
          have hx_w2_w0 : ∀ n : Nat, w.heap.size < w2.heap.size + n := by intro n; omega
          have hv_w2_w0 : ∀ n : Nat, w.heap.size ≤ w2.heap.size + n := by intro n; omega
          go_wp2
          go_ret
          refine ⟨by first | rfl | (simp), ?_⟩
          repeat' (first | (with_reducible exact Below.refl _ _) | (with_reducible assumption) | (with_reducible refine Below.alloc ?_ ?_ _) | (with_reducible refine Below.drew ?_) | (with_reducible refine bdrewN ?_ _) | (with_reducible refine Below.setCell ?_ ?_ _) | (with_reducible refine bthen ?_ (by assumption) ?_) | go_size)
        · have e : chkM N 10000 n d = 0 := by simp [chkM, h1, h2]; omega
          rw [e]; clear e
          clear h1 h2
          go_enter Try.func89, Try.ntmps89
          go_wp2_with fail
          apply Calls.mono
          · with_reducible exact l02Ok_any _ _ true H1.out _
          rintro _ w1 ⟨rfl, hb_w1⟩
          obtain ⟨hc_w1, hf_w1, hs_w1⟩ := bcell hb_w1
          try simp at hs_w1
          have hz_w1_w0 : w.heap.size < w1.heap.size := by omega
          have hy_w1_w0 : w.heap.size ≤ w1.heap.size := by omega
          have hx_w1_w0 : ∀ n : Nat, w.heap.size < w1.heap.size + n := by intro n; omega
          have hv_w1_w0 : ∀ n : Nat, w.heap.size ≤ w1.heap.size + n := by intro n; omega
          go_wp2_with fail
          apply Calls.mono
          · with_reducible exact l00In_any _ _ _ true H2.out _
          rintro _ w2 ⟨rfl, hb_w2⟩
          obtain ⟨hc_w2, hf_w2, hs_w2⟩ := bcell hb_w2
          try simp at hs_w2
          have hz_w2_w0 : w.heap.size < w2.heap.size := by omega
          have hy_w2_w0 : w.heap.size ≤ w2.heap.size := by omega
          have hx_w2_w0 : ∀ n : Nat, w.heap.size < w2.heap.size + n := by intro n; omega
          have hv_w2_w0 : ∀ n : Nat, w.heap.size ≤ w2.heap.size + n := by intro n; omega
          go_wp2
          go_ret
          refine ⟨by first | rfl | (simp), ?_⟩
          repeat' (first | (with_reducible exact Below.refl _ _) | (with_reducible assumption) | (with_reducible refine Below.alloc ?_ ?_ _) | (with_reducible refine Below.drew ?_) | (with_reducible refine bdrewN ?_ _) | (with_reducible refine Below.setCell ?_ ?_ _) | (with_reducible refine bthen ?_ (by assumption) ?_) | go_size)
set_option maxHeartbeats 400000 in
theorem l06Small_any (N n d : Int) (r : Int) (hr : chkM N 40 n d = r) (w : World) : Calls Try.prog 94 #[.int .i64 N, .agg #[.int .i64 n, .int .i64 d]] w (Ret w (.int .i64 r)) := by
  subst hr
  by_cases h0 : chkM N 10000 n d = 0
  · cases h1 : inB N 1 40
    · have e : chkM N 40 n d = 2 := by
        have : okF n d = true := by cases h : okF n d <;> simp [chkM, h] at h0 ⊢
        simp [chkM, h1, this]
      rw [e]; clear e
      have H0 := Lib.hid h0
      have H1 := Lib.hid h1
      clear h0 h1
      go_enter Try.func94, Try.ntmps94
      go_wp2_with fail
      apply Calls.mono
      · with_reducible exact l06Code_any _ _ _ 0 H0.out _
      rintro _ w1 ⟨rfl, hb_w1⟩
      obtain ⟨hc_w1, hf_w1, hs_w1⟩ := bcell hb_w1
      try simp at hs_w1
      have hz_w1_w0 : w.heap.size < w1.heap.size := by omega
      have hy_w1_w0 : w.heap.size ≤ w1.heap.size := by omega
      have hx_w1_w0 : ∀ n : Nat, w.heap.size < w1.heap.size + n := by intro n; omega
      have hv_w1_w0 : ∀ n : Nat, w.heap.size ≤ w1.heap.size + n := by intro n; omega
      go_wp2_with fail
      apply Calls.mono
      · with_reducible exact l06Order_any _ false H1.out _
      rintro _ w2 ⟨rfl, hb_w2⟩
      obtain ⟨hc_w2, hf_w2, hs_w2⟩ := bcell hb_w2
      try simp at hs_w2
      have hz_w2_w0 : w.heap.size < w2.heap.size := by omega
      have hy_w2_w0 : w.heap.size ≤ w2.heap.size := by omega
      have hx_w2_w0 : ∀ n : Nat, w.heap.size < w2.heap.size + n := by intro n; omega
      have hv_w2_w0 : ∀ n : Nat, w.heap.size ≤ w2.heap.size + n := by intro n; omega
      go_wp2
      go_ret
      refine ⟨by first | rfl | (simp), ?_⟩
      repeat' (first | (with_reducible exact Below.refl _ _) | (with_reducible assumption) | (with_reducible refine Below.alloc ?_ ?_ _) | (with_reducible refine Below.drew ?_) | (with_reducible refine bdrewN ?_ _) | (with_reducible refine Below.setCell ?_ ?_ _) | (with_reducible refine bthen ?_ (by assumption) ?_) | go_size)
    · have e : chkM N 40 n d = 0 := by
        have h2 : okF n d = true := by cases h : okF n d <;> simp [chkM, h] at h0 ⊢
        have h3 : (decide (0 ≤ n) && decide (n ≤ d)) = true := by
          cases h : (decide (0 ≤ n) && decide (n ≤ d))
          · simp [chkM, h2, h] at h0
          · rfl
        unfold chkM
        rw [h2, h1, h3]; rfl
      rw [e]; clear e
      have H0 := Lib.hid h0
      have H1 := Lib.hid h1
      clear h0 h1
      go_enter Try.func94, Try.ntmps94
      go_wp2_with fail
      apply Calls.mono
      · with_reducible exact l06Code_any _ _ _ 0 H0.out _
      rintro _ w1 ⟨rfl, hb_w1⟩
      obtain ⟨hc_w1, hf_w1, hs_w1⟩ := bcell hb_w1
      try simp at hs_w1
      have hz_w1_w0 : w.heap.size < w1.heap.size := by omega
      have hy_w1_w0 : w.heap.size ≤ w1.heap.size := by omega
      have hx_w1_w0 : ∀ n : Nat, w.heap.size < w1.heap.size + n := by intro n; omega
      have hv_w1_w0 : ∀ n : Nat, w.heap.size ≤ w1.heap.size + n := by intro n; omega
      go_wp2_with fail
      apply Calls.mono
      · with_reducible exact l06Order_any _ true H1.out _
      rintro _ w2 ⟨rfl, hb_w2⟩
      obtain ⟨hc_w2, hf_w2, hs_w2⟩ := bcell hb_w2
      try simp at hs_w2
      have hz_w2_w0 : w.heap.size < w2.heap.size := by omega
      have hy_w2_w0 : w.heap.size ≤ w2.heap.size := by omega
      have hx_w2_w0 : ∀ n : Nat, w.heap.size < w2.heap.size + n := by intro n; omega
      have hv_w2_w0 : ∀ n : Nat, w.heap.size ≤ w2.heap.size + n := by intro n; omega
      go_wp2
      go_ret
      refine ⟨by first | rfl | (simp), ?_⟩
      repeat' (first | (with_reducible exact Below.refl _ _) | (with_reducible assumption) | (with_reducible refine Below.alloc ?_ ?_ _) | (with_reducible refine Below.drew ?_) | (with_reducible refine bdrewN ?_ _) | (with_reducible refine Below.setCell ?_ ?_ _) | (with_reducible refine bthen ?_ (by assumption) ?_) | go_size)
  · have e : chkM N 40 n d = chkM N 10000 n d := by
      unfold chkM at h0 ⊢
      cases h2 : okF n d
      · rfl
      · rw [h2, if_pos rfl] at h0
        rw [if_pos rfl, if_pos rfl]
        cases h3 : (inB N 1 10000 && (decide (0 ≤ n) && decide (n ≤ d)))
        · cases h4 : (inB N 1 40 && (decide (0 ≤ n) && decide (n ≤ d)))
          · rfl
          · exfalso
            simp only [inB, Bool.and_eq_true, decide_eq_true_eq] at h4
            simp only [inB, Bool.and_eq_false_iff, decide_eq_false_iff_not] at h3
            omega
        · rw [h3] at h0; exact absurd rfl h0
    rw [e]; clear e
    have hne : (chkM N 10000 n d == 0) = false := by simpa using h0
    generalize hc : chkM N 10000 n d = c at *
    have HC := Lib.hid hc
    clear hc h0
    go_enter Try.func94, Try.ntmps94
    go_wp2_with fail
    apply Calls.mono
    · with_reducible exact l06Code_any _ _ _ c HC.out _
    rintro _ w1 ⟨rfl, hb_w1⟩
    obtain ⟨hc_w1, hf_w1, hs_w1⟩ := bcell hb_w1
    try simp at hs_w1
    have hz_w1_w0 : w.heap.size < w1.heap.size := by omega
    have hy_w1_w0 : w.heap.size ≤ w1.heap.size := by omega
    have hx_w1_w0 : ∀ n : Nat, w.heap.size < w1.heap.size + n := by intro n; omega
    have hv_w1_w0 : ∀ n : Nat, w.heap.size ≤ w1.heap.size + n := by intro n; omega
    go_wp2
    go_ret
    refine ⟨by first | rfl | (simp), ?_⟩
    repeat' (first | (with_reducible exact Below.refl _ _) | (with_reducible assumption) | (with_reducible refine Below.alloc ?_ ?_ _) | (with_reducible refine Below.drew ?_) | (with_reducible refine bdrewN ?_ _) | (with_reducible refine Below.setCell ?_ ?_ _) | (with_reducible refine bthen ?_ (by assumption) ?_) | go_size)
end Go.Proofs.Ytlmmpeeacjbobaa
