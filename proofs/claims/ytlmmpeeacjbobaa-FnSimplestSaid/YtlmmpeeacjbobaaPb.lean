/-
  ParentFraction: both packages' walks.
-/
import Derived.Test.YtlmmpeeacjbobaaPa
namespace Go.Proofs.Ytlmmpeeacjbobaa
open Go.RowKit

theorem own_slice {w : World} {base size n : Nat} {e : TypeId} {v : Value} {xs : List Value} (h : w.ownsRow base e size v n xs) : ∃ a c, v = .slice a n c := by
  rcases h.2 with ⟨rfl, rfl⟩ | ⟨g, cap, cur, rfl, _⟩
  · exact ⟨none, 0, rfl⟩
  · exact ⟨_, _, rfl⟩
theorem blk_at1' (w : World) (t : TypeId) (cs : Array Value) (o : Obj) : Blk ((w.alloc o).alloc (.cells cs t)) (w.heap.size + 1) t cs := by
  have h := Blk.new (w.alloc o) t cs
  rw [World.size_alloc] at h
  exact h
theorem blk_at2' (w : World) (t : TypeId) (cs : Array Value) (o o' : Obj) : Blk (((w.alloc o).alloc o').alloc (.cells cs t)) (w.heap.size + 1 + 1) t cs := by
  have h := Blk.new ((w.alloc o).alloc o') t cs
  rw [World.size_alloc, World.size_alloc] at h
  exact h
theorem posC_one (xs ys : Nat → Int) (m : Nat) (hm : m = 1) {r : Int} (h : posC (xs 0) (ys 0) = r) : (if ∀ t, t < m → okF (xs t) (ys t) = true then (if ∀ t, t < m → 1 ≤ xs t then (0 : Int) else 2) else 1) = r := by
  subst hm
  rw [← h]
  unfold posC
  have e0 : ∀ t, t < 1 → t = 0 := fun t ht => by omega
  by_cases h1 : okF (xs 0) (ys 0) = true
  · rw [if_pos (fun t ht => by rw [e0 t ht]; exact h1), if_pos h1]
    by_cases h2 : 1 ≤ xs 0
    · rw [if_pos (fun t ht => by rw [e0 t ht]; exact h2), if_pos h2]
    · rw [if_neg (fun h => h2 (h 0 (by omega))), if_neg h2]
  · rw [if_neg (fun h => h1 (h 0 (by omega))), if_neg h1]
set_option maxHeartbeats 2000000 in
set_option maxRecDepth 100000 in
theorem parentI_any (n d : Int) (w : World) : Calls Try.prog 10 #[.agg #[.int .i64 n, .int .i64 d]] w (Ret w (.tuple #[.agg #[.int .i64 (paM n d).1, .int .i64 (paM n d).2.1], .int .i64 (paM n d).2.2])) := by
  obtain ⟨r, hr⟩ : ∃ r, posC n d = r := ⟨_, rfl⟩
  have H := Lib.hid (posC_one (fun _ => n) (fun _ => d) 1 rfl hr)
  by_cases h0 : r = 0
  · subst h0
    obtain ⟨hok, ⟨n1, n2⟩, d1, d2⟩ := pos_facts hr
    obtain ⟨i, l, hL, E⟩ := ex_all n1 n2 d1 d2
    have hM := pa_of hr hL
    have kP := fun w => pathTo_any n d n1 n2 d1 d2 i l hL E w
    by_cases hl : l = 1
    · rw [if_pos hl] at hM
      rw [hM]
      have e : pthL i l = [] := by unfold pthL; rw [if_pos hl]
      rw [e] at kP
      clear hM hr hL E hl e hok
      go_enter Try.func10, Try.ntmps10
      go_wp2_with fail
      apply Calls.mono
      · with_reducible exact checkPositive_any 1 1 _ (fun _ => n) (fun _ => d) (by omega) (by omega) (by omega) _ (by simp) (by intro j hj; obtain rfl : j = 0 := (by omega); exact ⟨(blk_at2' w _ _ _ _).cell 0, (blk_at2' w _ _ _ _).cell 1⟩) 0 H.out
      rintro _ w1 ⟨rfl, hb_w1⟩
      obtain ⟨hc_w1, hf_w1, hs_w1⟩ := bcell hb_w1
      try simp at hs_w1
      have hz_w1_w0 : w.heap.size < w1.heap.size := by omega
      have hy_w1_w0 : w.heap.size ≤ w1.heap.size := by omega
      have hx_w1_w0 : ∀ n : Nat, w.heap.size < w1.heap.size + n := by intro n; omega
      have hv_w1_w0 : ∀ n : Nat, w.heap.size ≤ w1.heap.size + n := by intro n; omega
      have hz_w1_w1 : w.heap.size + 1 < w1.heap.size := by omega
      have hy_w1_w1 : w.heap.size + 1 ≤ w1.heap.size := by omega
      have hx_w1_w1 : ∀ n : Nat, w.heap.size + 1 < w1.heap.size + n := by intro n; omega
      have hv_w1_w1 : ∀ n : Nat, w.heap.size + 1 ≤ w1.heap.size + n := by intro n; omega
      have hz_w1_w2 : w.heap.size + 2 < w1.heap.size := by omega
      have hy_w1_w2 : w.heap.size + 2 ≤ w1.heap.size := by omega
      have hx_w1_w2 : ∀ n : Nat, w.heap.size + 2 < w1.heap.size + n := by intro n; omega
      have hv_w1_w2 : ∀ n : Nat, w.heap.size + 2 ≤ w1.heap.size + n := by intro n; omega
      go_wp2_with fail
      apply Calls.mono
      · with_reducible exact kP _
      rintro _ w2 ⟨v2, rfl, ho2, hb_w2⟩
      obtain ⟨a2, c2, rfl⟩ := own_slice ho2
      obtain ⟨hc_w2, hf_w2, hs_w2⟩ := bcell hb_w2
      try simp at hs_w2
      have hz_w2_w0 : w.heap.size < w2.heap.size := by omega
      have hy_w2_w0 : w.heap.size ≤ w2.heap.size := by omega
      have hx_w2_w0 : ∀ n : Nat, w.heap.size < w2.heap.size + n := by intro n; omega
      have hv_w2_w0 : ∀ n : Nat, w.heap.size ≤ w2.heap.size + n := by intro n; omega
      have hz_w2_w1 : w.heap.size + 1 < w2.heap.size := by omega
      have hy_w2_w1 : w.heap.size + 1 ≤ w2.heap.size := by omega
      have hx_w2_w1 : ∀ n : Nat, w.heap.size + 1 < w2.heap.size + n := by intro n; omega
      have hv_w2_w1 : ∀ n : Nat, w.heap.size + 1 ≤ w2.heap.size + n := by intro n; omega
      have hz_w2_w2 : w.heap.size + 2 < w2.heap.size := by omega
      have hy_w2_w2 : w.heap.size + 2 ≤ w2.heap.size := by omega
      have hx_w2_w2 : ∀ n : Nat, w.heap.size + 2 < w2.heap.size + n := by intro n; omega
      have hv_w2_w2 : ∀ n : Nat, w.heap.size + 2 ≤ w2.heap.size + n := by intro n; omega
      clear ho2
      go_wp2
      refine bodyPost_ret (by simp [results, Try.results10, go_sem, *]; try rfl) rfl ?_
      refine ⟨by first | rfl | simp, ?_⟩
      repeat' (first | (with_reducible exact Below.refl _ _) | (with_reducible assumption) | (with_reducible refine Below.alloc ?_ ?_ _) | (with_reducible refine Below.drew ?_) | (with_reducible refine bdrewN ?_ _) | (with_reducible refine Below.setCell ?_ ?_ _) | (with_reducible refine bthen ?_ (by assumption) ?_) | go_size)
    · rw [if_neg hl] at hM
      rw [hM]
      have e : pthL i l = i ++ [l - 1] := by unfold pthL; rw [if_neg hl]
      rw [e, List.length_append, List.length_singleton] at kP
      have hS := sht_fa E hl
      have hT := trl_sht E hl
      have l2 : -1000000 ≤ l ∧ l ≤ 1000000000 := ⟨by by_cases h : i = []; (have := E.one h; omega); (have := E.two h; omega), E.top⟩
      have hlen := E.len
      generalize shtL i l = s at *
      generalize hfm : faM s = F at *
      have HS := Lib.hid hS
      have HT := Lib.hid hT
      have HF := Lib.hid hfm
      have hi : ((i.length + 1 : Nat) : Int) - 1 = (i.length : Int) := by omega
      have hi0 : ¬ (((i.length + 1 : Nat) : Int) = 0) := by omega
      clear hM hr hL E hl e hok hS hT hfm
      go_enter Try.func10, Try.ntmps10
      go_wp2_with fail
      apply Calls.mono
      · with_reducible exact checkPositive_any 1 1 _ (fun _ => n) (fun _ => d) (by omega) (by omega) (by omega) _ (by simp) (by intro j hj; obtain rfl : j = 0 := (by omega); exact ⟨(blk_at2' w _ _ _ _).cell 0, (blk_at2' w _ _ _ _).cell 1⟩) 0 H.out
      rintro _ w1 ⟨rfl, hb_w1⟩
      obtain ⟨hc_w1, hf_w1, hs_w1⟩ := bcell hb_w1
      try simp at hs_w1
      have hz_w1_w0 : w.heap.size < w1.heap.size := by omega
      have hy_w1_w0 : w.heap.size ≤ w1.heap.size := by omega
      have hx_w1_w0 : ∀ n : Nat, w.heap.size < w1.heap.size + n := by intro n; omega
      have hv_w1_w0 : ∀ n : Nat, w.heap.size ≤ w1.heap.size + n := by intro n; omega
      have hz_w1_w1 : w.heap.size + 1 < w1.heap.size := by omega
      have hy_w1_w1 : w.heap.size + 1 ≤ w1.heap.size := by omega
      have hx_w1_w1 : ∀ n : Nat, w.heap.size + 1 < w1.heap.size + n := by intro n; omega
      have hv_w1_w1 : ∀ n : Nat, w.heap.size + 1 ≤ w1.heap.size + n := by intro n; omega
      have hz_w1_w2 : w.heap.size + 2 < w1.heap.size := by omega
      have hy_w1_w2 : w.heap.size + 2 ≤ w1.heap.size := by omega
      have hx_w1_w2 : ∀ n : Nat, w.heap.size + 2 < w1.heap.size + n := by intro n; omega
      have hv_w1_w2 : ∀ n : Nat, w.heap.size + 2 ≤ w1.heap.size + n := by intro n; omega
      go_wp2_with fail
      apply Calls.mono
      · with_reducible exact kP _
      rintro _ w2 ⟨v2, rfl, ho2, hb_w2⟩
      have hB0 : Blk (((w.alloc (.cells #[.int .i64 n, .int .i64 d] 24)).alloc (.cells #[.int .i64 0, .int .i64 0] 24)).alloc (.cells #[.int .i64 n, .int .i64 d] 24)) (w.heap.size + 1) 24 #[.int .i64 0, .int .i64 0] := (blk_at1' w _ _ _).alloc _
      have hB1 := hB0.below hb_w1 hB0.lt
      have hB2 := hB1.below hb_w2 hB1.lt
      have z1 : w.heap.size + 1 + 1 + 1 ≤ w1.heap.size := by have := hb_w1.size; simpa using this
      have bel1 : Below w.heap.size w w1 := by repeat' (first | (with_reducible exact Below.refl _ _) | (with_reducible assumption) | (with_reducible refine Below.alloc ?_ ?_ _) | (with_reducible refine Below.drew ?_) | (with_reducible refine bdrewN ?_ _) | (with_reducible refine Below.setCell ?_ ?_ _) | (with_reducible refine bthen ?_ (by assumption) ?_) | go_size)
      have bel2 := bthen bel1 hb_w2 bel1.size
      obtain ⟨g, cap, rfl, ⟨hg1, hg2, hg3⟩, c1, f1, hown2⟩ := own_last i (l - 1) rfl rfl ho2
      have hst := own_changed (l - 1 - 1) hown2
      have bel3 := bel2.setCell (p := ⟨g, i.length, none⟩) (show w.heap.size ≤ g by omega) (.int .i64 (l - 1 - 1))
      have hB3 := hB2.far (p := ⟨g, i.length, none⟩) (show w.heap.size + 1 ≠ g by omega) (.int .i64 (l - 1 - 1))
      have z2 := hb_w2.size
      have kT := trimmed_any _ (i.length + 1) (i ++ [l - 1 - 1]) _ (Rs.of_own hst)
      rw [show l - 1 - 1 = l - 2 by omega, HT.out] at kT
      rw [show l - 1 - 1 = l - 2 by omega] at bel3 hB3
      have hw : l - 1 - 1 = l - 2 := by omega
      clear hB0 hB1 hB2 bel1 bel2 ho2 hown2 hst hc_w1 hf_w1 kP hb_w1 hb_w2
      go_wp2_with fail
      apply Calls.mono
      · with_reducible exact kT
      rintro _ w3 ⟨v3, rfl, hR3, hb_w3⟩
      have hB4 := hB3.below hb_w3 hB3.lt
      have bel4 := bthen bel3 hb_w3 bel3.size
      have kF := fractionAt_fa v3 s w3 hR3 HS.out
      rw [HF.out] at kF
      clear hB3 bel3 hR3 hb_w3 kT c1 f1
      go_wp2_with fail
      apply Calls.mono
      · with_reducible exact kF
      rintro _ w4 ⟨rfl, hb_w4⟩
      have hB5 := hB4.below hb_w4 hB4.lt
      have bel5 := bthen bel4 hb_w4 bel4.size
      have d0 : w4.cell? ⟨w.heap.size + 1, 0, none⟩ = some (.int .i64 0) := hB5.cell 0
      have d1 : w4.cell? ⟨w.heap.size + 1, 1, none⟩ = some (.int .i64 0) := hB5.cell 1
      have d2 : w4.frozen? ⟨w.heap.size + 1, 0, none⟩ = false := hB5.frozen 0
      have d3 : w4.frozen? ⟨w.heap.size + 1, 1, none⟩ = false := hB5.frozen 1
      have zB := hB5.lt
      have zC : w.heap.size + 1 ≠ w4.heap.size := by omega
      clear hB4 bel4 hb_w4 kF
      go_wp2
      refine bodyPost_ret (by simp [results, Try.results10, go_sem, *]; try rfl) rfl ?_
      refine ⟨by first | rfl | simp, ?_⟩
      repeat' (first | (with_reducible exact Below.refl _ _) | (with_reducible assumption) | (with_reducible refine Below.alloc ?_ ?_ _) | (with_reducible refine Below.drew ?_) | (with_reducible refine bdrewN ?_ _) | (with_reducible refine Below.setCell ?_ ?_ _) | (with_reducible refine bthen ?_ (by assumption) ?_) | go_size)
  · have hM : paM n d = (0, 0, r) := by unfold paM; rw [if_neg (by rw [hr]; exact h0), hr]
    rw [hM]
    have hne : (r != 0) = true := by simp [h0]
    clear hM hr h0
    go_enter Try.func10, Try.ntmps10
    go_wp2_with fail
    apply Calls.mono
    · with_reducible exact checkPositive_any 1 1 _ (fun _ => n) (fun _ => d) (by omega) (by omega) (by omega) _ (by simp) (by intro j hj; obtain rfl : j = 0 := (by omega); exact ⟨(blk_at2' w _ _ _ _).cell 0, (blk_at2' w _ _ _ _).cell 1⟩) r H.out
    rintro _ w1 ⟨rfl, hb_w1⟩
    obtain ⟨hc_w1, hf_w1, hs_w1⟩ := bcell hb_w1
    try simp at hs_w1
    have hz_w1_w0 : w.heap.size < w1.heap.size := by omega
    have hy_w1_w0 : w.heap.size ≤ w1.heap.size := by omega
    have hx_w1_w0 : ∀ n : Nat, w.heap.size < w1.heap.size + n := by intro n; omega
    have hv_w1_w0 : ∀ n : Nat, w.heap.size ≤ w1.heap.size + n := by intro n; omega
    have hz_w1_w1 : w.heap.size + 1 < w1.heap.size := by omega
    have hy_w1_w1 : w.heap.size + 1 ≤ w1.heap.size := by omega
    have hx_w1_w1 : ∀ n : Nat, w.heap.size + 1 < w1.heap.size + n := by intro n; omega
    have hv_w1_w1 : ∀ n : Nat, w.heap.size + 1 ≤ w1.heap.size + n := by intro n; omega
    have hz_w1_w2 : w.heap.size + 2 < w1.heap.size := by omega
    have hy_w1_w2 : w.heap.size + 2 ≤ w1.heap.size := by omega
    have hx_w1_w2 : ∀ n : Nat, w.heap.size + 2 < w1.heap.size + n := by intro n; omega
    have hv_w1_w2 : ∀ n : Nat, w.heap.size + 2 ≤ w1.heap.size + n := by intro n; omega
    go_wp2
    refine bodyPost_ret (by simp [results, Try.results10, go_sem, *]; try rfl) rfl ?_
    refine ⟨by first | rfl | simp, ?_⟩
    repeat' (first | (with_reducible exact Below.refl _ _) | (with_reducible assumption) | (with_reducible refine Below.alloc ?_ ?_ _) | (with_reducible refine Below.drew ?_) | (with_reducible refine bdrewN ?_ _) | (with_reducible refine Below.setCell ?_ ?_ _) | (with_reducible refine bthen ?_ (by assumption) ?_) | go_size)
set_option maxHeartbeats 2000000 in
set_option maxRecDepth 100000 in
theorem parentS_any (n d : Int) (w : World) : Calls Try.prog 8 #[.agg #[.int .i64 n, .int .i64 d]] w (Ret w (.tuple #[.agg #[.int .i64 (paM n d).1, .int .i64 (paM n d).2.1], .int .i64 (paM n d).2.2])) := by
  obtain ⟨r, hr⟩ : ∃ r, posC n d = r := ⟨_, rfl⟩
  have H := Lib.hid hr
  by_cases h0 : r = 0
  · subst h0
    obtain ⟨hok, ⟨n1, n2⟩, d1, d2⟩ := pos_facts hr
    obtain ⟨i, l, hL, E⟩ := ex_all n1 n2 d1 d2
    have hM := pa_of hr hL
    have kP := fun w => l05Path_any n d n1 n2 d1 d2 i l hL E w
    by_cases hl : l = 1
    · rw [if_pos hl] at hM
      rw [hM]
      have e : pthL i l = [] := by unfold pthL; rw [if_pos hl]
      rw [e] at kP
      clear hM hr hL E hl e hok
      go_enter Try.func8, Try.ntmps8
      go_wp2_with fail
      apply Calls.mono
      · with_reducible exact l05Code_any _ _ 0 H.out _
      rintro _ w1 ⟨rfl, hb_w1⟩
      obtain ⟨hc_w1, hf_w1, hs_w1⟩ := bcell hb_w1
      try simp at hs_w1
      have hz_w1_w0 : w.heap.size < w1.heap.size := by omega
      have hy_w1_w0 : w.heap.size ≤ w1.heap.size := by omega
      have hx_w1_w0 : ∀ n : Nat, w.heap.size < w1.heap.size + n := by intro n; omega
      have hv_w1_w0 : ∀ n : Nat, w.heap.size ≤ w1.heap.size + n := by intro n; omega
      have hz_w1_w1 : w.heap.size + 1 < w1.heap.size := by omega
      have hy_w1_w1 : w.heap.size + 1 ≤ w1.heap.size := by omega
      have hx_w1_w1 : ∀ n : Nat, w.heap.size + 1 < w1.heap.size + n := by intro n; omega
      have hv_w1_w1 : ∀ n : Nat, w.heap.size + 1 ≤ w1.heap.size + n := by intro n; omega
      go_wp2_with fail
      apply Calls.mono
      · with_reducible exact kP _
      rintro _ w2 ⟨v2, rfl, ho2, hb_w2⟩
      obtain ⟨a2, c2, rfl⟩ := own_slice ho2
      obtain ⟨hc_w2, hf_w2, hs_w2⟩ := bcell hb_w2
      try simp at hs_w2
      have hz_w2_w0 : w.heap.size < w2.heap.size := by omega
      have hy_w2_w0 : w.heap.size ≤ w2.heap.size := by omega
      have hx_w2_w0 : ∀ n : Nat, w.heap.size < w2.heap.size + n := by intro n; omega
      have hv_w2_w0 : ∀ n : Nat, w.heap.size ≤ w2.heap.size + n := by intro n; omega
      have hz_w2_w1 : w.heap.size + 1 < w2.heap.size := by omega
      have hy_w2_w1 : w.heap.size + 1 ≤ w2.heap.size := by omega
      have hx_w2_w1 : ∀ n : Nat, w.heap.size + 1 < w2.heap.size + n := by intro n; omega
      have hv_w2_w1 : ∀ n : Nat, w.heap.size + 1 ≤ w2.heap.size + n := by intro n; omega
      clear ho2
      go_wp2
      refine bodyPost_ret (by simp [results, Try.results8, go_sem, *]; try rfl) rfl ?_
      refine ⟨by first | rfl | simp, ?_⟩
      repeat' (first | (with_reducible exact Below.refl _ _) | (with_reducible assumption) | (with_reducible refine Below.alloc ?_ ?_ _) | (with_reducible refine Below.drew ?_) | (with_reducible refine bdrewN ?_ _) | (with_reducible refine Below.setCell ?_ ?_ _) | (with_reducible refine bthen ?_ (by assumption) ?_) | go_size)
    · rw [if_neg hl] at hM
      rw [hM]
      have e : pthL i l = i ++ [l - 1] := by unfold pthL; rw [if_neg hl]
      rw [e, List.length_append, List.length_singleton] at kP
      have hS := sht_fa E hl
      have kH := fun v w hv => l05Short_any v i l w E hl hv
      have hlen := E.len
      generalize shtL i l = s at *
      generalize hfm : faM s = F at *
      have HS := Lib.hid hS
      have HF := Lib.hid hfm
      have hi0 : ¬ (((i.length + 1 : Nat) : Int) = 0) := by omega
      clear hM hr hL E hl e hok hS hfm
      go_enter Try.func8, Try.ntmps8
      go_wp2_with fail
      apply Calls.mono
      · with_reducible exact l05Code_any _ _ 0 H.out _
      rintro _ w1 ⟨rfl, hb_w1⟩
      obtain ⟨hc_w1, hf_w1, hs_w1⟩ := bcell hb_w1
      try simp at hs_w1
      have hz_w1_w0 : w.heap.size < w1.heap.size := by omega
      have hy_w1_w0 : w.heap.size ≤ w1.heap.size := by omega
      have hx_w1_w0 : ∀ n : Nat, w.heap.size < w1.heap.size + n := by intro n; omega
      have hv_w1_w0 : ∀ n : Nat, w.heap.size ≤ w1.heap.size + n := by intro n; omega
      have hz_w1_w1 : w.heap.size + 1 < w1.heap.size := by omega
      have hy_w1_w1 : w.heap.size + 1 ≤ w1.heap.size := by omega
      have hx_w1_w1 : ∀ n : Nat, w.heap.size + 1 < w1.heap.size + n := by intro n; omega
      have hv_w1_w1 : ∀ n : Nat, w.heap.size + 1 ≤ w1.heap.size + n := by intro n; omega
      go_wp2_with fail
      apply Calls.mono
      · with_reducible exact kP _
      rintro _ w2 ⟨v2, rfl, ho2, hb_w2⟩
      have hB0 : Blk ((w.alloc (.cells #[.int .i64 n, .int .i64 d] 24)).alloc (.cells #[.int .i64 0, .int .i64 0] 24)) (w.heap.size + 1) 24 #[.int .i64 0, .int .i64 0] := blk_at1' w _ _ _
      have hB2 := (hB0.below hb_w1 hB0.lt).below hb_w2 (hB0.below hb_w1 hB0.lt).lt
      have bel1 : Below w.heap.size w w1 := by repeat' (first | (with_reducible exact Below.refl _ _) | (with_reducible assumption) | (with_reducible refine Below.alloc ?_ ?_ _) | (with_reducible refine Below.drew ?_) | (with_reducible refine bdrewN ?_ _) | (with_reducible refine Below.setCell ?_ ?_ _) | (with_reducible refine bthen ?_ (by assumption) ?_) | go_size)
      have bel2 := bthen bel1 hb_w2 bel1.size
      obtain ⟨a2, c2, rfl⟩ := own_slice ho2
      have kH2 := kH _ w2 (Rs.of_own ho2)
      clear hB0 bel1 ho2 hc_w1 hf_w1 kP kH hb_w1 hb_w2
      go_wp2_with fail
      apply Calls.mono
      · with_reducible exact kH2
      rintro _ w3 ⟨v3, rfl, hR3, hb_w3⟩
      have hB4 := hB2.below hb_w3 hB2.lt
      have bel4 := bthen bel2 hb_w3 bel2.size
      have kF := l05At_fa v3 s w3 hR3 HS.out
      rw [HF.out] at kF
      clear hB2 bel2 hR3 hb_w3 kH2
      go_wp2_with fail
      apply Calls.mono
      · with_reducible exact kF
      rintro _ w4 ⟨rfl, hb_w4⟩
      have hB5 := hB4.below hb_w4 hB4.lt
      have bel5 := bthen bel4 hb_w4 bel4.size
      have d0 : w4.cell? ⟨w.heap.size + 1, 0, none⟩ = some (.int .i64 0) := hB5.cell 0
      have d1 : w4.cell? ⟨w.heap.size + 1, 1, none⟩ = some (.int .i64 0) := hB5.cell 1
      have d2 : w4.frozen? ⟨w.heap.size + 1, 0, none⟩ = false := hB5.frozen 0
      have d3 : w4.frozen? ⟨w.heap.size + 1, 1, none⟩ = false := hB5.frozen 1
      have zB := hB5.lt
      have zC : w.heap.size + 1 ≠ w4.heap.size := by omega
      clear hB4 bel4 hb_w4 kF
      go_wp2
      refine bodyPost_ret (by simp [results, Try.results8, go_sem, *]; try rfl) rfl ?_
      refine ⟨by first | rfl | simp, ?_⟩
      repeat' (first | (with_reducible exact Below.refl _ _) | (with_reducible assumption) | (with_reducible refine Below.alloc ?_ ?_ _) | (with_reducible refine Below.drew ?_) | (with_reducible refine bdrewN ?_ _) | (with_reducible refine Below.setCell ?_ ?_ _) | (with_reducible refine bthen ?_ (by assumption) ?_) | go_size)
  · have hM : paM n d = (0, 0, r) := by unfold paM; rw [if_neg (by rw [hr]; exact h0), hr]
    rw [hM]
    have hne : (r != 0) = true := by simp [h0]
    clear hM hr h0
    go_enter Try.func8, Try.ntmps8
    go_wp2_with fail
    apply Calls.mono
    · with_reducible exact l05Code_any _ _ r H.out _
    rintro _ w1 ⟨rfl, hb_w1⟩
    obtain ⟨hc_w1, hf_w1, hs_w1⟩ := bcell hb_w1
    try simp at hs_w1
    have hz_w1_w0 : w.heap.size < w1.heap.size := by omega
    have hy_w1_w0 : w.heap.size ≤ w1.heap.size := by omega
    have hx_w1_w0 : ∀ n : Nat, w.heap.size < w1.heap.size + n := by intro n; omega
    have hv_w1_w0 : ∀ n : Nat, w.heap.size ≤ w1.heap.size + n := by intro n; omega
    have hz_w1_w1 : w.heap.size + 1 < w1.heap.size := by omega
    have hy_w1_w1 : w.heap.size + 1 ≤ w1.heap.size := by omega
    have hx_w1_w1 : ∀ n : Nat, w.heap.size + 1 < w1.heap.size + n := by intro n; omega
    have hv_w1_w1 : ∀ n : Nat, w.heap.size + 1 ≤ w1.heap.size + n := by intro n; omega
    go_wp2
    refine bodyPost_ret (by simp [results, Try.results8, go_sem, *]; try rfl) rfl ?_
    refine ⟨by first | rfl | simp, ?_⟩
    repeat' (first | (with_reducible exact Below.refl _ _) | (with_reducible assumption) | (with_reducible refine Below.alloc ?_ ?_ _) | (with_reducible refine Below.drew ?_) | (with_reducible refine bdrewN ?_ _) | (with_reducible refine Below.setCell ?_ ?_ _) | (with_reducible refine bthen ?_ (by assumption) ?_) | go_size)
end Go.Proofs.Ytlmmpeeacjbobaa
