/-
  The functions on Farey sequences that return the sequence, one of its elements, or the code of an order and a fraction.
-/
import Derived.Test.YtlmmpeeacjbobaaDoorFarey
import Derived.Test.YtlmmpeeacjbobaaDoorFrac2
namespace Go.Proofs.YtlmmpeeacjbobaaDoor
open Go.RowKit

/-- A call returns a new row of these cells, and a code. -/
def RetRow2 (w : World) (e : TypeId) (size n : Nat) (xs : List Value) (code : Int) (en : Ending) (w' : World) : Prop := ∃ v, en = .returned (.tuple #[v, .int .i64 code]) ∧ w'.ownsRow w.heap.size e size v n xs ∧ Below w.heap.size w w'
def seqM (N : Int) : List (Int × Int) × Int := if inB N 1 40 then (farL N, 0) else ([], 2)
theorem farL_len {N : Int} (h1 : 1 ≤ N) (h2 : N ≤ 40) : 1 ≤ (farL N).length ∧ (farL N).length ≤ 600 := by
  have := (far_facts h1 h2).2.2.2
  simp only [farL, List.length_cons]
  omega

theorem l06Order_any (N : Int) (r : Bool) (hr : inB N 1 40 = r) (w : World) : Calls Tryd.prog 53 #[.int .i64 N] w (Ret w (.bool r)) := by
  have HR := Lib.hid hr
  clear hr
  go_enter Tryd.func53, Tryd.ntmps53
  go_wp2_with fail
  apply Calls.mono
  · with_reducible exact l00In_any _ _ _ _ HR.out _
  rintro _ w1 ⟨rfl, hb_w1⟩
  obtain ⟨hc_w1, hf_w1, hs_w1⟩ := bcell hb_w1
  try simp at hs_w1
  go_wp2
  go_ret
  refine ⟨by first | rfl | (simp), ?_⟩
  repeat' (first | (with_reducible exact Below.refl _ _) | (with_reducible assumption) | (with_reducible refine Below.alloc ?_ ?_ _) | (with_reducible refine Below.drew ?_) | (with_reducible refine bdrewN ?_ _) | (with_reducible refine Below.setCell ?_ ?_ _) | (with_reducible refine bthen ?_ (by assumption) ?_) | go_size)
theorem sizeF_any (v : Value) (n : Nat) (xs : List Value) (w : World) (hv : Rd w 2 v n xs) : Calls Tryd.prog 59 #[v] w (Ret w (.int .i64 n)) := by
  obtain ⟨A, c, rfl, hn1, hc1, _, hr1⟩ := hv
  have hn : (n : Int) ≤ 9223372036854775807 := by simp only [maxLen] at hc1; omega
  clear hr1
  go_enter Tryd.func59, Tryd.ntmps59
  go_wp2
  go_ret
  refine ⟨by first | rfl | (simp), ?_⟩
  repeat' (first | (with_reducible exact Below.refl _ _) | (with_reducible assumption) | (with_reducible refine Below.alloc ?_ ?_ _) | (with_reducible refine Below.drew ?_) | (with_reducible refine bdrewN ?_ _) | (with_reducible refine Below.setCell ?_ ?_ _) | (with_reducible refine bthen ?_ (by assumption) ?_) | go_size)
theorem fareySequenceS_any (N : Int) (w : World) : Calls Tryd.prog 19 #[.int .i64 N] w (RetRow2 w 43 2 (seqM N).1.length (prs (seqM N).1) (seqM N).2) := by
  cases h1 : inB N 1 40
  · have e : seqM N = ([], 2) := by simp [seqM, h1]
    rw [e]; clear e
    have H1 := Lib.hid h1
    clear h1
    go_enter Tryd.func19, Tryd.ntmps19
    go_wp2_with fail
    apply Calls.mono
    · with_reducible exact l06Order_any _ false H1.out _
    rintro _ w1 ⟨rfl, hb_w1⟩
    obtain ⟨hc_w1, hf_w1, hs_w1⟩ := bcell hb_w1
    try simp at hs_w1
    go_wp2
    go_ret2
    exact ⟨_, rfl, World.ownsRow_nil _ _ _ _, hb_w1⟩
  · have e : seqM N = (farL N, 0) := by simp [seqM, h1]
    rw [e]; clear e
    obtain ⟨b1, b2⟩ := inB_iff.1 h1
    have H1 := Lib.hid h1
    clear h1
    go_enter Tryd.func19, Tryd.ntmps19
    go_wp2_with fail
    apply Calls.mono
    · with_reducible exact l06Order_any _ true H1.out _
    rintro _ w1 ⟨rfl, hb_w1⟩
    obtain ⟨hc_w1, hf_w1, hs_w1⟩ := bcell hb_w1
    try simp at hs_w1
    go_wp2_with fail
    apply Calls.mono
    · with_reducible exact l06All_any _ b1 b2 _
    rintro _ w2 ⟨v2, rfl, ho2, hb_w2⟩
    go_wp2
    go_ret2
    refine ⟨_, rfl, own_base ho2 hb_w1.size, ?_⟩
    repeat' (first | (with_reducible exact Below.refl _ _) | (with_reducible assumption) | (with_reducible refine Below.alloc ?_ ?_ _) | (with_reducible refine Below.drew ?_) | (with_reducible refine bdrewN ?_ _) | (with_reducible refine Below.setCell ?_ ?_ _) | (with_reducible refine bthen ?_ (by assumption) ?_) | go_size)
theorem fareySequenceI_any (N : Int) (w : World) : Calls Tryd.prog 18 #[.int .i64 N] w (RetRow2 w 43 2 (seqM N).1.length (prs (seqM N).1) (seqM N).2) := by
  cases h1 : inB N 1 40
  · have e : seqM N = ([], 2) := by simp [seqM, h1]
    rw [e]; clear e
    have H1 := Lib.hid h1
    clear h1
    go_enter Tryd.func18, Tryd.ntmps18
    go_wp2_with fail
    apply Calls.mono
    · with_reducible exact within_any _ _ _ false H1.out _
    rintro _ w1 ⟨rfl, hb_w1⟩
    obtain ⟨hc_w1, hf_w1, hs_w1⟩ := bcell hb_w1
    try simp at hs_w1
    go_wp2
    go_ret2
    exact ⟨_, rfl, World.ownsRow_nil _ _ _ _, hb_w1⟩
  · have e : seqM N = (farL N, 0) := by simp [seqM, h1]
    rw [e]; clear e
    obtain ⟨b1, b2⟩ := inB_iff.1 h1
    have H1 := Lib.hid h1
    clear h1
    go_enter Tryd.func18, Tryd.ntmps18
    go_wp2_with fail
    apply Calls.mono
    · with_reducible exact within_any _ _ _ true H1.out _
    rintro _ w1 ⟨rfl, hb_w1⟩
    obtain ⟨hc_w1, hf_w1, hs_w1⟩ := bcell hb_w1
    try simp at hs_w1
    go_wp2_with fail
    apply Calls.mono
    · with_reducible exact farey_any _ b1 b2 _
    rintro _ w2 ⟨v2, rfl, ho2, hb_w2⟩
    go_wp2
    go_ret2
    refine ⟨_, rfl, own_base ho2 hb_w1.size, ?_⟩
    repeat' (first | (with_reducible exact Below.refl _ _) | (with_reducible assumption) | (with_reducible refine Below.alloc ?_ ?_ _) | (with_reducible refine Below.drew ?_) | (with_reducible refine bdrewN ?_ _) | (with_reducible refine Below.setCell ?_ ?_ _) | (with_reducible refine bthen ?_ (by assumption) ?_) | go_size)
/-- FareyAt. -/
def atM (N k : Int) : Int × Int × Int := if inB N 1 40 then (if inB k 0 (((farL N).length : Int) - 1) then (((farL N).getD k.toNat (0, 0)).1, ((farL N).getD k.toNat (0, 0)).2, 0) else (0, 0, 3)) else (0, 0, 2)
set_option maxHeartbeats 400000 in
theorem fareyAtS_any (N k : Int) (w : World) : Calls Tryd.prog 28 #[.int .i64 N, .int .i64 k] w (Ret w (.tuple #[.agg #[.int .i64 (atM N k).1, .int .i64 (atM N k).2.1], .int .i64 (atM N k).2.2])) := by
  cases h1 : inB N 1 40
  · have e : atM N k = (0, 0, 2) := by simp [atM, h1]
    rw [e]; clear e
    have H1 := Lib.hid h1
    clear h1
    go_enter Tryd.func28, Tryd.ntmps28
    go_wp2_with fail
    apply Calls.mono
    · with_reducible exact l06Order_any _ false H1.out _
    rintro _ w1 ⟨rfl, hb_w1⟩
    obtain ⟨hc_w1, hf_w1, hs_w1⟩ := bcell hb_w1
    try simp at hs_w1
    have hz_w1_w0 : w.heap.size < w1.heap.size := by omega
    have hy_w1_w0 : w.heap.size ≤ w1.heap.size := by omega
    have hx_w1_w0 : ∀ n : Nat, w.heap.size < w1.heap.size + n := by intro n; omega
    have hv_w1_w0 : ∀ n : Nat, w.heap.size ≤ w1.heap.size + n := by intro n; omega
    go_wp2
    refine bodyPost_ret (by simp [results, Tryd.results28, go_sem, *]; try rfl) rfl ?_
    refine ⟨by first | rfl | simp, ?_⟩
    repeat' (first | (with_reducible exact Below.refl _ _) | (with_reducible assumption) | (with_reducible refine Below.alloc ?_ ?_ _) | (with_reducible refine Below.drew ?_) | (with_reducible refine bdrewN ?_ _) | (with_reducible refine Below.setCell ?_ ?_ _) | (with_reducible refine bthen ?_ (by assumption) ?_) | go_size)
  · obtain ⟨b1, b2⟩ := inB_iff.1 h1
    obtain ⟨L1, L2⟩ := farL_len b1 b2
    have H1 := Lib.hid h1
    cases h2 : inB k 0 (((farL N).length : Int) - 1)
    · have e : atM N k = (0, 0, 3) := by simp [atM, h1, h2]
      rw [e]; clear e
      have H2 := Lib.hid h2
      clear h1 h2
      go_enter Tryd.func28, Tryd.ntmps28
      go_wp2_with fail
      apply Calls.mono
      · with_reducible exact l06Order_any _ true H1.out _
      rintro _ w1 ⟨rfl, hb_w1⟩
      obtain ⟨hc_w1, hf_w1, hs_w1⟩ := bcell hb_w1
      try simp at hs_w1
      have hz_w1_w0 : w.heap.size < w1.heap.size := by omega
      have hy_w1_w0 : w.heap.size ≤ w1.heap.size := by omega
      have hx_w1_w0 : ∀ n : Nat, w.heap.size < w1.heap.size + n := by intro n; omega
      have hv_w1_w0 : ∀ n : Nat, w.heap.size ≤ w1.heap.size + n := by intro n; omega
      go_wp2_with fail
      apply Calls.mono
      · with_reducible exact l06All_any _ b1 b2 _
      rintro _ w2 ⟨v2, rfl, ho2, hb_w2⟩
      obtain ⟨hc_w2, hf_w2, hs_w2⟩ := bcell hb_w2
      try simp at hs_w2
      have hz_w2_w0 : w.heap.size < w2.heap.size := by omega
      have hy_w2_w0 : w.heap.size ≤ w2.heap.size := by omega
      have hx_w2_w0 : ∀ n : Nat, w.heap.size < w2.heap.size + n := by intro n; omega
      have hv_w2_w0 : ∀ n : Nat, w.heap.size ≤ w2.heap.size + n := by intro n; omega
      obtain ⟨g, cap, rfl, hg1, hg2⟩ := ho2.form (by omega)
      clear ho2
      go_wp2_with fail
      apply Calls.mono
      · with_reducible exact l00In_any _ _ _ false H2.out _
      rintro _ w3 ⟨rfl, hb_w3⟩
      obtain ⟨hc_w3, hf_w3, hs_w3⟩ := bcell hb_w3
      try simp at hs_w3
      have hz_w3_w0 : w.heap.size < w3.heap.size := by omega
      have hy_w3_w0 : w.heap.size ≤ w3.heap.size := by omega
      have hx_w3_w0 : ∀ n : Nat, w.heap.size < w3.heap.size + n := by intro n; omega
      have hv_w3_w0 : ∀ n : Nat, w.heap.size ≤ w3.heap.size + n := by intro n; omega
      go_wp2
      refine bodyPost_ret (by simp [results, Tryd.results28, go_sem, *]; try rfl) rfl ?_
      refine ⟨by first | rfl | simp, ?_⟩
      repeat' (first | (with_reducible exact Below.refl _ _) | (with_reducible assumption) | (with_reducible refine Below.alloc ?_ ?_ _) | (with_reducible refine Below.drew ?_) | (with_reducible refine bdrewN ?_ _) | (with_reducible refine Below.setCell ?_ ?_ _) | (with_reducible refine bthen ?_ (by assumption) ?_) | go_size)
    · obtain ⟨k1, k2⟩ := inB_iff.1 h2
      obtain ⟨j, rfl⟩ := Int.eq_ofNat_of_zero_le k1
      obtain ⟨⟨x, y⟩, hxy⟩ := get_ex (l := farL N) (k := j) (by omega)
      have e : atM N (j : Int) = (x, y, 0) := by simp [atM, h1, h2, List.getD_eq_getElem?_getD, hxy]
      rw [e]; clear e
      have H2 := Lib.hid h2
      have HX := Lib.hid hxy
      clear h1 h2 hxy
      go_enter Tryd.func28, Tryd.ntmps28
      go_wp2_with fail
      apply Calls.mono
      · with_reducible exact l06Order_any _ true H1.out _
      rintro _ w1 ⟨rfl, hb_w1⟩
      obtain ⟨hc_w1, hf_w1, hs_w1⟩ := bcell hb_w1
      try simp at hs_w1
      have hz_w1_w0 : w.heap.size < w1.heap.size := by omega
      have hy_w1_w0 : w.heap.size ≤ w1.heap.size := by omega
      have hx_w1_w0 : ∀ n : Nat, w.heap.size < w1.heap.size + n := by intro n; omega
      have hv_w1_w0 : ∀ n : Nat, w.heap.size ≤ w1.heap.size + n := by intro n; omega
      go_wp2_with fail
      apply Calls.mono
      · with_reducible exact l06All_any _ b1 b2 _
      rintro _ w2 ⟨v2, rfl, ho2, hb_w2⟩
      obtain ⟨hc_w2, hf_w2, hs_w2⟩ := bcell hb_w2
      try simp at hs_w2
      have hz_w2_w0 : w.heap.size < w2.heap.size := by omega
      have hy_w2_w0 : w.heap.size ≤ w2.heap.size := by omega
      have hx_w2_w0 : ∀ n : Nat, w.heap.size < w2.heap.size + n := by intro n; omega
      have hv_w2_w0 : ∀ n : Nat, w.heap.size ≤ w2.heap.size + n := by intro n; omega
      obtain ⟨g, cap, rfl, hg1, hg2⟩ := ho2.form (by omega)
      have HO := Lib.hid ho2
      clear ho2
      go_wp2_with fail
      apply Calls.mono
      · with_reducible exact l00In_any _ _ _ true H2.out _
      rintro _ w3 ⟨rfl, hb_w3⟩
      obtain ⟨hc_w3, hf_w3, hs_w3⟩ := bcell hb_w3
      try simp at hs_w3
      have hz_w3_w0 : w.heap.size < w3.heap.size := by omega
      have hy_w3_w0 : w.heap.size ≤ w3.heap.size := by omega
      have hx_w3_w0 : ∀ n : Nat, w.heap.size < w3.heap.size + n := by intro n; omega
      have hv_w3_w0 : ∀ n : Nat, w.heap.size ≤ w3.heap.size + n := by intro n; omega
      have d1 : w2.cell? ⟨g, j * 2, none⟩ = some (.int .i64 x) := (HO.out.cellAt (j * 2) (by omega)).trans (prs_get HX.out).1
      have d2 : w2.cell? ⟨g, j * 2 + 1, none⟩ = some (.int .i64 y) := (HO.out.cellAt (j * 2 + 1) (by omega)).trans (prs_get HX.out).2
      have hj : (j : Int) < ((farL N).length : Int) := by omega
      go_wp2
      refine bodyPost_ret (by simp [results, Tryd.results28, go_sem, *]; try rfl) rfl ?_
      refine ⟨by first | rfl | simp, ?_⟩
      repeat' (first | (with_reducible exact Below.refl _ _) | (with_reducible assumption) | (with_reducible refine Below.alloc ?_ ?_ _) | (with_reducible refine Below.drew ?_) | (with_reducible refine bdrewN ?_ _) | (with_reducible refine Below.setCell ?_ ?_ _) | (with_reducible refine bthen ?_ (by assumption) ?_) | go_size)
set_option maxHeartbeats 400000 in
theorem fareyAtI_any (N k : Int) (w : World) : Calls Tryd.prog 27 #[.int .i64 N, .int .i64 k] w (Ret w (.tuple #[.agg #[.int .i64 (atM N k).1, .int .i64 (atM N k).2.1], .int .i64 (atM N k).2.2])) := by
  cases h1 : inB N 1 40
  · have e : atM N k = (0, 0, 2) := by simp [atM, h1]
    rw [e]; clear e
    have H1 := Lib.hid h1
    clear h1
    go_enter Tryd.func27, Tryd.ntmps27
    go_wp2_with fail
    apply Calls.mono
    · with_reducible exact within_any _ _ _ false H1.out _
    rintro _ w1 ⟨rfl, hb_w1⟩
    obtain ⟨hc_w1, hf_w1, hs_w1⟩ := bcell hb_w1
    try simp at hs_w1
    have hz_w1_w0 : w.heap.size < w1.heap.size := by omega
    have hy_w1_w0 : w.heap.size ≤ w1.heap.size := by omega
    have hx_w1_w0 : ∀ n : Nat, w.heap.size < w1.heap.size + n := by intro n; omega
    have hv_w1_w0 : ∀ n : Nat, w.heap.size ≤ w1.heap.size + n := by intro n; omega
    go_wp2
    refine bodyPost_ret (by simp [results, Tryd.results27, go_sem, *]; try rfl) rfl ?_
    refine ⟨by first | rfl | simp, ?_⟩
    repeat' (first | (with_reducible exact Below.refl _ _) | (with_reducible assumption) | (with_reducible refine Below.alloc ?_ ?_ _) | (with_reducible refine Below.drew ?_) | (with_reducible refine bdrewN ?_ _) | (with_reducible refine Below.setCell ?_ ?_ _) | (with_reducible refine bthen ?_ (by assumption) ?_) | go_size)
  · obtain ⟨b1, b2⟩ := inB_iff.1 h1
    obtain ⟨L1, L2⟩ := farL_len b1 b2
    have H1 := Lib.hid h1
    cases h2 : inB k 0 (((farL N).length : Int) - 1)
    · have e : atM N k = (0, 0, 3) := by simp [atM, h1, h2]
      rw [e]; clear e
      have H2 := Lib.hid h2
      clear h1 h2
      go_enter Tryd.func27, Tryd.ntmps27
      go_wp2_with fail
      apply Calls.mono
      · with_reducible exact within_any _ _ _ true H1.out _
      rintro _ w1 ⟨rfl, hb_w1⟩
      obtain ⟨hc_w1, hf_w1, hs_w1⟩ := bcell hb_w1
      try simp at hs_w1
      have hz_w1_w0 : w.heap.size < w1.heap.size := by omega
      have hy_w1_w0 : w.heap.size ≤ w1.heap.size := by omega
      have hx_w1_w0 : ∀ n : Nat, w.heap.size < w1.heap.size + n := by intro n; omega
      have hv_w1_w0 : ∀ n : Nat, w.heap.size ≤ w1.heap.size + n := by intro n; omega
      go_wp2_with fail
      apply Calls.mono
      · with_reducible exact farey_any _ b1 b2 _
      rintro _ w2 ⟨v2, rfl, ho2, hb_w2⟩
      obtain ⟨hc_w2, hf_w2, hs_w2⟩ := bcell hb_w2
      try simp at hs_w2
      have hz_w2_w0 : w.heap.size < w2.heap.size := by omega
      have hy_w2_w0 : w.heap.size ≤ w2.heap.size := by omega
      have hx_w2_w0 : ∀ n : Nat, w.heap.size < w2.heap.size + n := by intro n; omega
      have hv_w2_w0 : ∀ n : Nat, w.heap.size ≤ w2.heap.size + n := by intro n; omega
      have HR := Lib.hid (Rd.of_own ho2)
      clear ho2
      go_wp2_with fail
      apply Calls.mono
      · with_reducible exact sizeF_any _ _ _ _ HR.out
      rintro _ w3 ⟨rfl, hb_w3⟩
      obtain ⟨hc_w3, hf_w3, hs_w3⟩ := bcell hb_w3
      try simp at hs_w3
      have hz_w3_w0 : w.heap.size < w3.heap.size := by omega
      have hy_w3_w0 : w.heap.size ≤ w3.heap.size := by omega
      have hx_w3_w0 : ∀ n : Nat, w.heap.size < w3.heap.size + n := by intro n; omega
      have hv_w3_w0 : ∀ n : Nat, w.heap.size ≤ w3.heap.size + n := by intro n; omega
      go_wp2_with fail
      apply Calls.mono
      · with_reducible exact within_any _ _ _ false H2.out _
      rintro _ w4 ⟨rfl, hb_w4⟩
      obtain ⟨hc_w4, hf_w4, hs_w4⟩ := bcell hb_w4
      try simp at hs_w4
      have hz_w4_w0 : w.heap.size < w4.heap.size := by omega
      have hy_w4_w0 : w.heap.size ≤ w4.heap.size := by omega
      have hx_w4_w0 : ∀ n : Nat, w.heap.size < w4.heap.size + n := by intro n; omega
      have hv_w4_w0 : ∀ n : Nat, w.heap.size ≤ w4.heap.size + n := by intro n; omega
      go_wp2
      refine bodyPost_ret (by simp [results, Tryd.results27, go_sem, *]; try rfl) rfl ?_
      refine ⟨by first | rfl | simp, ?_⟩
      repeat' (first | (with_reducible exact Below.refl _ _) | (with_reducible assumption) | (with_reducible refine Below.alloc ?_ ?_ _) | (with_reducible refine Below.drew ?_) | (with_reducible refine bdrewN ?_ _) | (with_reducible refine Below.setCell ?_ ?_ _) | (with_reducible refine bthen ?_ (by assumption) ?_) | go_size)
    · obtain ⟨k1, k2⟩ := inB_iff.1 h2
      obtain ⟨j, rfl⟩ := Int.eq_ofNat_of_zero_le k1
      obtain ⟨⟨x, y⟩, hxy⟩ := get_ex (l := farL N) (k := j) (by omega)
      have e : atM N (j : Int) = (x, y, 0) := by simp [atM, h1, h2, List.getD_eq_getElem?_getD, hxy]
      rw [e]; clear e
      have H2 := Lib.hid h2
      have HX := Lib.hid hxy
      clear h1 h2 hxy
      go_enter Tryd.func27, Tryd.ntmps27
      go_wp2_with fail
      apply Calls.mono
      · with_reducible exact within_any _ _ _ true H1.out _
      rintro _ w1 ⟨rfl, hb_w1⟩
      obtain ⟨hc_w1, hf_w1, hs_w1⟩ := bcell hb_w1
      try simp at hs_w1
      have hz_w1_w0 : w.heap.size < w1.heap.size := by omega
      have hy_w1_w0 : w.heap.size ≤ w1.heap.size := by omega
      have hx_w1_w0 : ∀ n : Nat, w.heap.size < w1.heap.size + n := by intro n; omega
      have hv_w1_w0 : ∀ n : Nat, w.heap.size ≤ w1.heap.size + n := by intro n; omega
      go_wp2_with fail
      apply Calls.mono
      · with_reducible exact farey_any _ b1 b2 _
      rintro _ w2 ⟨v2, rfl, ho2, hb_w2⟩
      obtain ⟨hc_w2, hf_w2, hs_w2⟩ := bcell hb_w2
      try simp at hs_w2
      have hz_w2_w0 : w.heap.size < w2.heap.size := by omega
      have hy_w2_w0 : w.heap.size ≤ w2.heap.size := by omega
      have hx_w2_w0 : ∀ n : Nat, w.heap.size < w2.heap.size + n := by intro n; omega
      have hv_w2_w0 : ∀ n : Nat, w.heap.size ≤ w2.heap.size + n := by intro n; omega
      obtain ⟨g, cap, rfl, hg1, hg2⟩ := ho2.form (by omega)
      have HR := Lib.hid (Rd.of_own ho2)
      have HO := Lib.hid ho2
      clear ho2
      go_wp2_with fail
      apply Calls.mono
      · with_reducible exact sizeF_any _ _ _ _ HR.out
      rintro _ w3 ⟨rfl, hb_w3⟩
      obtain ⟨hc_w3, hf_w3, hs_w3⟩ := bcell hb_w3
      try simp at hs_w3
      have hz_w3_w0 : w.heap.size < w3.heap.size := by omega
      have hy_w3_w0 : w.heap.size ≤ w3.heap.size := by omega
      have hx_w3_w0 : ∀ n : Nat, w.heap.size < w3.heap.size + n := by intro n; omega
      have hv_w3_w0 : ∀ n : Nat, w.heap.size ≤ w3.heap.size + n := by intro n; omega
      go_wp2_with fail
      apply Calls.mono
      · with_reducible exact within_any _ _ _ true H2.out _
      rintro _ w4 ⟨rfl, hb_w4⟩
      obtain ⟨hc_w4, hf_w4, hs_w4⟩ := bcell hb_w4
      try simp at hs_w4
      have hz_w4_w0 : w.heap.size < w4.heap.size := by omega
      have hy_w4_w0 : w.heap.size ≤ w4.heap.size := by omega
      have hx_w4_w0 : ∀ n : Nat, w.heap.size < w4.heap.size + n := by intro n; omega
      have hv_w4_w0 : ∀ n : Nat, w.heap.size ≤ w4.heap.size + n := by intro n; omega
      have ho3 := own_below (own_below HO.out hb_w3 (Nat.le_refl _)) hb_w4 (Nat.le_refl _)
      have d1 : w4.cell? ⟨g, j * 2, none⟩ = some (.int .i64 x) := (ho3.cellAt (j * 2) (by omega)).trans (prs_get HX.out).1
      have d2 : w4.cell? ⟨g, j * 2 + 1, none⟩ = some (.int .i64 y) := (ho3.cellAt (j * 2 + 1) (by omega)).trans (prs_get HX.out).2
      have hj : (j : Int) < ((farL N).length : Int) := by omega
      clear ho3
      go_wp2
      refine bodyPost_ret (by simp [results, Tryd.results27, go_sem, *]; try rfl) rfl ?_
      refine ⟨by first | rfl | simp, ?_⟩
      repeat' (first | (with_reducible exact Below.refl _ _) | (with_reducible assumption) | (with_reducible refine Below.alloc ?_ ?_ _) | (with_reducible refine Below.drew ?_) | (with_reducible refine bdrewN ?_ _) | (with_reducible refine Below.setCell ?_ ?_ _) | (with_reducible refine bthen ?_ (by assumption) ?_) | go_size)
/-- The code of an order and a fraction. -/
def chkM (N M n d : Int) : Int := if okF n d then (if inB N 1 M && (decide (0 ≤ n) && decide (n ≤ d)) then 0 else 2) else 1
set_option maxHeartbeats 400000 in
theorem checkFarey_any (N M n d : Int) (r : Int) (hr : chkM N M n d = r) (w : World) : Calls Tryd.prog 60 #[.int .i64 N, .int .i64 M, .agg #[.int .i64 n, .int .i64 d]] w (Ret w (.int .i64 r)) := by
  subst hr
  cases h1 : okF n d
  · have e : chkM N M n d = 1 := by simp [chkM, h1]
    rw [e]; clear e
    have H1 := Lib.hid h1
    clear h1
    go_enter Tryd.func60, Tryd.ntmps60
    go_wp2_with fail
    apply Calls.mono
    · with_reducible exact validFraction_any _ _ false H1.out _
    rintro _ w1 ⟨rfl, hb_w1⟩
    obtain ⟨hc_w1, hf_w1, hs_w1⟩ := bcell hb_w1
    try simp at hs_w1
    have hz_w1_w0 : w.heap.size < w1.heap.size := by omega
    have hy_w1_w0 : w.heap.size ≤ w1.heap.size := by omega
    have hx_w1_w0 : ∀ n : Nat, w.heap.size < w1.heap.size + n := by intro n; omega
    have hv_w1_w0 : ∀ n : Nat, w.heap.size ≤ w1.heap.size + n := by intro n; omega
    go_wp2
    go_ret
    refine ⟨by first | rfl | (simp), ?_⟩
    repeat' (first | (with_reducible exact Below.refl _ _) | (with_reducible assumption) | (with_reducible refine Below.alloc ?_ ?_ _) | (with_reducible refine Below.drew ?_) | (with_reducible refine bdrewN ?_ _) | (with_reducible refine Below.setCell ?_ ?_ _) | (with_reducible refine bthen ?_ (by assumption) ?_) | go_size)
  · have H1 := Lib.hid h1
    cases h2 : inB N 1 M
    · have e : chkM N M n d = 2 := by simp [chkM, h1, h2]
      rw [e]; clear e
      have H2 := Lib.hid h2
      clear h1 h2
      go_enter Tryd.func60, Tryd.ntmps60
      go_wp2_with fail
      apply Calls.mono
      · with_reducible exact validFraction_any _ _ true H1.out _
      rintro _ w1 ⟨rfl, hb_w1⟩
      obtain ⟨hc_w1, hf_w1, hs_w1⟩ := bcell hb_w1
      try simp at hs_w1
      have hz_w1_w0 : w.heap.size < w1.heap.size := by omega
      have hy_w1_w0 : w.heap.size ≤ w1.heap.size := by omega
      have hx_w1_w0 : ∀ n : Nat, w.heap.size < w1.heap.size + n := by intro n; omega
      have hv_w1_w0 : ∀ n : Nat, w.heap.size ≤ w1.heap.size + n := by intro n; omega
      go_wp2_with fail
      apply Calls.mono
      · with_reducible exact within_any _ _ _ false H2.out _
      rintro _ w2 ⟨rfl, hb_w2⟩
      obtain ⟨hc_w2, hf_w2, hs_w2⟩ := bcell hb_w2
      try simp at hs_w2
      have hz_w2_w0 : w.heap.size < w2.heap.size := by omega
      have hy_w2_w0 : w.heap.size ≤ w2.heap.size := by omega
      have hx_w2_w0 : ∀ n : Nat, w.heap.size < w2.heap.size + n := by intro n; omega
      have hv_w2_w0 : ∀ n : Nat, w.heap.size ≤ w2.heap.size + n := by intro n; omega
      go_wp2
      go_ret
      refine ⟨by first | rfl | (simp), ?_⟩
      repeat' (first | (with_reducible exact Below.refl _ _) | (with_reducible assumption) | (with_reducible refine Below.alloc ?_ ?_ _) | (with_reducible refine Below.drew ?_) | (with_reducible refine bdrewN ?_ _) | (with_reducible refine Below.setCell ?_ ?_ _) | (with_reducible refine bthen ?_ (by assumption) ?_) | go_size)
    · have H2 := Lib.hid h2
      by_cases h3 : n < 0
      · have e : chkM N M n d = 2 := by simp [chkM, h1, h2]; omega
        rw [e]; clear e
        clear h1 h2
        go_enter Tryd.func60, Tryd.ntmps60
        go_wp2_with fail
        apply Calls.mono
        · with_reducible exact validFraction_any _ _ true H1.out _
        rintro _ w1 ⟨rfl, hb_w1⟩
        obtain ⟨hc_w1, hf_w1, hs_w1⟩ := bcell hb_w1
        try simp at hs_w1
        have hz_w1_w0 : w.heap.size < w1.heap.size := by omega
        have hy_w1_w0 : w.heap.size ≤ w1.heap.size := by omega
        have hx_w1_w0 : ∀ n : Nat, w.heap.size < w1.heap.size + n := by intro n; omega
        have hv_w1_w0 : ∀ n : Nat, w.heap.size ≤ w1.heap.size + n := by intro n; omega
        go_wp2_with fail
        apply Calls.mono
        · with_reducible exact within_any _ _ _ true H2.out _
        rintro _ w2 ⟨rfl, hb_w2⟩
        obtain ⟨hc_w2, hf_w2, hs_w2⟩ := bcell hb_w2
        try simp at hs_w2
        have hz_w2_w0 : w.heap.size < w2.heap.size := by omega
        have hy_w2_w0 : w.heap.size ≤ w2.heap.size := by omega
        have hx_w2_w0 : ∀ n : Nat, w.heap.size < w2.heap.size + n := by intro n; omega
        have hv_w2_w0 : ∀ n : Nat, w.heap.size ≤ w2.heap.size + n := by intro n; omega
        go_wp2
        go_ret
        refine ⟨by first | rfl | (simp), ?_⟩
        repeat' (first | (with_reducible exact Below.refl _ _) | (with_reducible assumption) | (with_reducible refine Below.alloc ?_ ?_ _) | (with_reducible refine Below.drew ?_) | (with_reducible refine bdrewN ?_ _) | (with_reducible refine Below.setCell ?_ ?_ _) | (with_reducible refine bthen ?_ (by assumption) ?_) | go_size)
      · by_cases h4 : d < n
        · have e : chkM N M n d = 2 := by simp [chkM, h1, h2]; omega
          rw [e]; clear e
          clear h1 h2
          go_enter Tryd.func60, Tryd.ntmps60
          go_wp2_with fail
          apply Calls.mono
          · with_reducible exact validFraction_any _ _ true H1.out _
          rintro _ w1 ⟨rfl, hb_w1⟩
          obtain ⟨hc_w1, hf_w1, hs_w1⟩ := bcell hb_w1
          try simp at hs_w1
          have hz_w1_w0 : w.heap.size < w1.heap.size := by omega
          have hy_w1_w0 : w.heap.size ≤ w1.heap.size := by omega
          have hx_w1_w0 : ∀ n : Nat, w.heap.size < w1.heap.size + n := by intro n; omega
          have hv_w1_w0 : ∀ n : Nat, w.heap.size ≤ w1.heap.size + n := by intro n; omega
          go_wp2_with fail
          apply Calls.mono
          · with_reducible exact within_any _ _ _ true H2.out _
          rintro _ w2 ⟨rfl, hb_w2⟩
          obtain ⟨hc_w2, hf_w2, hs_w2⟩ := bcell hb_w2
          try simp at hs_w2
          have hz_w2_w0 : w.heap.size < w2.heap.size := by omega
          have hy_w2_w0 : w.heap.size ≤ w2.heap.size := by omega
          have hx_w2_w0 : ∀ n : Nat, w.heap.size < w2.heap.size + n := by intro n; omega
          have hv_w2_w0 : ∀ n : Nat, w.heap.size ≤ w2.heap.size + n := by intro n; omega
          go_wp2
          go_ret
          refine ⟨by first | rfl | (simp), ?_⟩
          repeat' (first | (with_reducible exact Below.refl _ _) | (with_reducible assumption) | (with_reducible refine Below.alloc ?_ ?_ _) | (with_reducible refine Below.drew ?_) | (with_reducible refine bdrewN ?_ _) | (with_reducible refine Below.setCell ?_ ?_ _) | (with_reducible refine bthen ?_ (by assumption) ?_) | go_size)
        · have e : chkM N M n d = 0 := by simp [chkM, h1, h2]; omega
          rw [e]; clear e
          clear h1 h2
          go_enter Tryd.func60, Tryd.ntmps60
          go_wp2_with fail
          apply Calls.mono
          · with_reducible exact validFraction_any _ _ true H1.out _
          rintro _ w1 ⟨rfl, hb_w1⟩
          obtain ⟨hc_w1, hf_w1, hs_w1⟩ := bcell hb_w1
          try simp at hs_w1
          have hz_w1_w0 : w.heap.size < w1.heap.size := by omega
          have hy_w1_w0 : w.heap.size ≤ w1.heap.size := by omega
          have hx_w1_w0 : ∀ n : Nat, w.heap.size < w1.heap.size + n := by intro n; omega
          have hv_w1_w0 : ∀ n : Nat, w.heap.size ≤ w1.heap.size + n := by intro n; omega
          go_wp2_with fail
          apply Calls.mono
          · with_reducible exact within_any _ _ _ true H2.out _
          rintro _ w2 ⟨rfl, hb_w2⟩
          obtain ⟨hc_w2, hf_w2, hs_w2⟩ := bcell hb_w2
          try simp at hs_w2
          have hz_w2_w0 : w.heap.size < w2.heap.size := by omega
          have hy_w2_w0 : w.heap.size ≤ w2.heap.size := by omega
          have hx_w2_w0 : ∀ n : Nat, w.heap.size < w2.heap.size + n := by intro n; omega
          have hv_w2_w0 : ∀ n : Nat, w.heap.size ≤ w2.heap.size + n := by intro n; omega
          go_wp2
          go_ret
          refine ⟨by first | rfl | (simp), ?_⟩
          repeat' (first | (with_reducible exact Below.refl _ _) | (with_reducible assumption) | (with_reducible refine Below.alloc ?_ ?_ _) | (with_reducible refine Below.drew ?_) | (with_reducible refine bdrewN ?_ _) | (with_reducible refine Below.setCell ?_ ?_ _) | (with_reducible refine bthen ?_ (by assumption) ?_) | go_size)
end Go.Proofs.YtlmmpeeacjbobaaDoor
