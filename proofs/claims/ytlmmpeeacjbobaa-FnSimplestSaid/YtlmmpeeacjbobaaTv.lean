/-
  Paths, levels, fractions at paths: both packages' walks.
-/
import Derived.Test.YtlmmpeeacjbobaaTu
import Derived.Test.YtlmmpeeacjbobaaCw
import Derived.Test.YtlmmpeeacjbobaaVp
import Derived.Test.YtlmmpeeacjbobaaPb
namespace Go.Proofs.Ytlmmpeeacjbobaa
open Go.RowKit

/-- The fraction at the end of a path, and its code. -/
def fpM (s : List Int) : Int × Int × Int := if okR s then (if faB s then ((faM s).1, (faM s).2, 0) else (0, 0, 5)) else (0, 0, 1)
theorem fa_bad {s : List Int} (h : faB s = false) : faM s = (0, 0) := by
  unfold faB at h
  unfold faM
  split at h
  · cases h
  · rename_i e
    rw [if_neg e]
    unfold caM at h ⊢
    split at h
    · cases h
    · rename_i e2; rw [if_neg e2]
theorem tmsW_snoc {j : List Int} {m : Int} (h : okR (j ++ [m]) = true) : tmsW (j ++ [m + 1]) = true := by
  obtain ⟨h1, h2, h3, h4⟩ := okR_snoc.1 h
  rw [tmsW_iff, List.length_append, List.length_singleton]
  refine ⟨by omega, ?_, fun t ht => ?_⟩
  · cases j with
    | nil => simp; omega
    | cons y j => have := h1 y (by simp); simp; omega
  · cases j with
    | nil => simp at ht
    | cons y j =>
      simp only [List.cons_append, List.drop_one, List.tail_cons] at ht
      rcases List.mem_append.1 ht with e | e
      · have a := h1 t (by simp [e])
        have b := h2 t (by simpa using e)
        omega
      · rw [List.mem_singleton] at e; omega
theorem fractionAt_ok (v : Value) (s : List Int) (w : World) (hv : Rs w 1 v s.length (ints s)) (hS : okR s = true) :
    Calls Try.prog 64 #[v] w (Ret w (.tuple #[.agg #[.int .i64 (faM s).1, .int .i64 (faM s).2], .bool (faB s)])) := by
  by_cases e : s = []
  · subst e
    exact fractionAt_nil v w hv
  · obtain ⟨j, m, rfl⟩ := snoc_of e
    rw [List.length_append, List.length_singleton] at hv
    obtain ⟨e1, e2⟩ := fa_snoc j m
    rw [e1, e2]
    obtain ⟨_, _, h3, _⟩ := okR_snoc.1 hS
    exact fractionAt_w v j m w hv (by omega) h3.2 (tmsW_snoc hS)
theorem l05At_ok (v : Value) (s : List Int) (w : World) (hv : Rs w 1 v s.length (ints s)) (hS : okR s = true) :
    Calls Try.prog 60 #[v] w (Ret w (.tuple #[.agg #[.int .i64 (faM s).1, .int .i64 (faM s).2], .bool (faB s)])) := by
  by_cases e : s = []
  · subst e
    exact l05At_nil v w hv
  · obtain ⟨j, m, rfl⟩ := snoc_of e
    rw [List.length_append, List.length_singleton] at hv
    obtain ⟨e1, e2⟩ := fa_snoc j m
    rw [e1, e2]
    obtain ⟨_, _, h3, _⟩ := okR_snoc.1 hS
    exact l05At_w v j m w hv (by omega) h3.2 (tmsW_snoc hS)
set_option maxHeartbeats 1000000 in
theorem fracPathI_any (v : Value) (s : List Int) (w : World) (hv : Rs w 1 v s.length (ints s)) (hn : s.length ≤ 1048576) :
    Calls Try.prog 24 #[v] w (Ret w (.tuple #[.agg #[.int .i64 (fpM s).1, .int .i64 (fpM s).2.1], .int .i64 (fpM s).2.2])) := by
  obtain ⟨F, hF⟩ : ∃ F, fpM s = F := ⟨_, rfl⟩
  rw [hF]
  have HF := Lib.hid hF
  have HV := Lib.hid (fun w' (hb : Below w.heap.size w w') => hv.below hb (Nat.le_refl _))
  have HVR := Lib.hid (fun w' (hb : Below w.heap.size w w') => (hv.below hb (Nat.le_refl _)).1)
  obtain ⟨A, c, rfl, -⟩ := id hv.1
  have bel0 : Below w.heap.size w (w.alloc (.cells #[.int .i64 0, .int .i64 0] 24)) := (Below.refl _ _).alloc (Nat.le_refl _) _
  clear hF hv
  cases hk : okR s
  · obtain rfl : (0, 0, 1) = F := by rw [← HF.out]; unfold fpM; rw [hk]; rfl
    have HK := Lib.hid hk
    clear hk HF
    go_enter Try.func24, Try.ntmps24
    go_wp2_with fail
    apply Calls.mono
    · with_reducible exact validPath_any _ s.length s _ (HVR.out _ bel0) hn false HK.out
    rintro _ w1 ⟨rfl, hb_w1⟩
    obtain ⟨hc_w1, hf_w1, hs_w1⟩ := bcell hb_w1
    try simp at hs_w1
    have hz_w1_w0 : w.heap.size < w1.heap.size := by omega
    have hy_w1_w0 : w.heap.size ≤ w1.heap.size := by omega
    have hx_w1_w0 : ∀ n : Nat, w.heap.size < w1.heap.size + n := by intro n; omega
    have hv_w1_w0 : ∀ n : Nat, w.heap.size ≤ w1.heap.size + n := by intro n; omega
    go_wp2
    refine bodyPost_ret (by simp [results, Try.results24, go_sem, *]; try rfl) rfl ?_
    refine ⟨by first | rfl | simp, ?_⟩
    repeat' (first | (with_reducible exact Below.refl _ _) | (with_reducible assumption) | (with_reducible refine Below.alloc ?_ ?_ _) | (with_reducible refine Below.drew ?_) | (with_reducible refine bdrewN ?_ _) | (with_reducible refine Below.setCell ?_ ?_ _) | (with_reducible refine bthen ?_ (by assumption) ?_) | go_size)
  · have HK := Lib.hid hk
    have kF := fun v w h => fractionAt_ok v s w h hk
    have hfp : fpM s = if faB s then ((faM s).1, (faM s).2, 0) else (0, 0, 5) := by unfold fpM; rw [if_pos hk]
    rw [HF.out] at hfp
    have hbd := fun h => fa_bad (s := s) h
    cases hb : faB s
    · rw [hb, hbd hb] at kF
      rw [hb] at hfp
      obtain rfl : F = (0, 0, 5) := hfp
      clear hb
      clear hk HF hbd
      go_enter Try.func24, Try.ntmps24
      go_wp2_with fail
      apply Calls.mono
      · with_reducible exact validPath_any _ s.length s _ (HVR.out _ bel0) hn true HK.out
      rintro _ w1 ⟨rfl, hb_w1⟩
      obtain ⟨hc_w1, hf_w1, hs_w1⟩ := bcell hb_w1
      try simp at hs_w1
      have hz_w1_w0 : w.heap.size < w1.heap.size := by omega
      have hy_w1_w0 : w.heap.size ≤ w1.heap.size := by omega
      have hx_w1_w0 : ∀ n : Nat, w.heap.size < w1.heap.size + n := by intro n; omega
      have hv_w1_w0 : ∀ n : Nat, w.heap.size ≤ w1.heap.size + n := by intro n; omega
      have bel1 := bthen bel0 hb_w1 bel0.size
      have hB1 := (Blk.new w 24 #[.int .i64 0, .int .i64 0]).below hb_w1 (by rw [World.size_alloc]; omega)
      go_wp2_with fail
      apply Calls.mono
      · with_reducible exact kF _ _ (HV.out _ bel1)
      rintro _ w2 ⟨rfl, hb_w2⟩
      have hB2 := hB1.below hb_w2 hB1.lt
      have bel2 := bthen bel1 hb_w2 bel1.size
      have d0 : w2.cell? ⟨w.heap.size, 0, none⟩ = some (.int .i64 0) := hB2.cell 0
      have d1 : w2.cell? ⟨w.heap.size, 1, none⟩ = some (.int .i64 0) := hB2.cell 1
      have d2 : w2.frozen? ⟨w.heap.size, 0, none⟩ = false := hB2.frozen 0
      have d3 : w2.frozen? ⟨w.heap.size, 1, none⟩ = false := hB2.frozen 1
      have zB := hB2.lt
      have zC : w.heap.size ≠ w2.heap.size := by omega
      clear hB1 hB2 hb_w1 hc_w1 hf_w1 hb_w2 kF bel1
      go_wp2
      refine bodyPost_ret (by simp [results, Try.results24, go_sem, *]; try rfl) rfl ?_
      refine ⟨by first | rfl | simp, ?_⟩
      repeat' (first | (with_reducible exact Below.refl _ _) | (with_reducible assumption) | (with_reducible refine Below.alloc ?_ ?_ _) | (with_reducible refine Below.drew ?_) | (with_reducible refine bdrewN ?_ _) | (with_reducible refine Below.setCell ?_ ?_ _) | (with_reducible refine bthen ?_ (by assumption) ?_) | go_size)
    · rw [hb] at kF hfp
      generalize faM s = f at *
      obtain rfl : F = (f.1, f.2, 0) := hfp
      clear hb
      clear hk HF hbd
      go_enter Try.func24, Try.ntmps24
      go_wp2_with fail
      apply Calls.mono
      · with_reducible exact validPath_any _ s.length s _ (HVR.out _ bel0) hn true HK.out
      rintro _ w1 ⟨rfl, hb_w1⟩
      obtain ⟨hc_w1, hf_w1, hs_w1⟩ := bcell hb_w1
      try simp at hs_w1
      have hz_w1_w0 : w.heap.size < w1.heap.size := by omega
      have hy_w1_w0 : w.heap.size ≤ w1.heap.size := by omega
      have hx_w1_w0 : ∀ n : Nat, w.heap.size < w1.heap.size + n := by intro n; omega
      have hv_w1_w0 : ∀ n : Nat, w.heap.size ≤ w1.heap.size + n := by intro n; omega
      have bel1 := bthen bel0 hb_w1 bel0.size
      have hB1 := (Blk.new w 24 #[.int .i64 0, .int .i64 0]).below hb_w1 (by rw [World.size_alloc]; omega)
      go_wp2_with fail
      apply Calls.mono
      · with_reducible exact kF _ _ (HV.out _ bel1)
      rintro _ w2 ⟨rfl, hb_w2⟩
      have hB2 := hB1.below hb_w2 hB1.lt
      have bel2 := bthen bel1 hb_w2 bel1.size
      have d0 : w2.cell? ⟨w.heap.size, 0, none⟩ = some (.int .i64 0) := hB2.cell 0
      have d1 : w2.cell? ⟨w.heap.size, 1, none⟩ = some (.int .i64 0) := hB2.cell 1
      have d2 : w2.frozen? ⟨w.heap.size, 0, none⟩ = false := hB2.frozen 0
      have d3 : w2.frozen? ⟨w.heap.size, 1, none⟩ = false := hB2.frozen 1
      have zB := hB2.lt
      have zC : w.heap.size ≠ w2.heap.size := by omega
      clear hB1 hB2 hb_w1 hc_w1 hf_w1 hb_w2 kF bel1
      go_wp2
      refine bodyPost_ret (by simp [results, Try.results24, go_sem, *]; try rfl) rfl ?_
      refine ⟨by first | rfl | simp, ?_⟩
      repeat' (first | (with_reducible exact Below.refl _ _) | (with_reducible assumption) | (with_reducible refine Below.alloc ?_ ?_ _) | (with_reducible refine Below.drew ?_) | (with_reducible refine bdrewN ?_ _) | (with_reducible refine Below.setCell ?_ ?_ _) | (with_reducible refine bthen ?_ (by assumption) ?_) | go_size)
set_option maxHeartbeats 1000000 in
theorem fracPathS_any (v : Value) (s : List Int) (w : World) (hv : Rs w 1 v s.length (ints s)) (hn : s.length ≤ 1048576) :
    Calls Try.prog 25 #[v] w (Ret w (.tuple #[.agg #[.int .i64 (fpM s).1, .int .i64 (fpM s).2.1], .int .i64 (fpM s).2.2])) := by
  obtain ⟨F, hF⟩ : ∃ F, fpM s = F := ⟨_, rfl⟩
  rw [hF]
  have HF := Lib.hid hF
  have HV := Lib.hid (fun w' (hb : Below w.heap.size w w') => hv.below hb (Nat.le_refl _))
  have HVR := Lib.hid (fun w' (hb : Below w.heap.size w w') => (hv.below hb (Nat.le_refl _)).1)
  obtain ⟨A, c, rfl, -⟩ := id hv.1
  have bel0 : Below w.heap.size w (w.alloc (.cells #[.int .i64 0, .int .i64 0] 24)) := (Below.refl _ _).alloc (Nat.le_refl _) _
  clear hF hv
  cases hk : okR s
  · obtain rfl : (0, 0, 1) = F := by rw [← HF.out]; unfold fpM; rw [hk]; rfl
    have HK := Lib.hid hk
    clear hk HF
    go_enter Try.func25, Try.ntmps25
    go_wp2_with fail
    apply Calls.mono
    · with_reducible exact l05Ok_any _ s.length s _ (HVR.out _ bel0) hn false HK.out
    rintro _ w1 ⟨rfl, hb_w1⟩
    obtain ⟨hc_w1, hf_w1, hs_w1⟩ := bcell hb_w1
    try simp at hs_w1
    have hz_w1_w0 : w.heap.size < w1.heap.size := by omega
    have hy_w1_w0 : w.heap.size ≤ w1.heap.size := by omega
    have hx_w1_w0 : ∀ n : Nat, w.heap.size < w1.heap.size + n := by intro n; omega
    have hv_w1_w0 : ∀ n : Nat, w.heap.size ≤ w1.heap.size + n := by intro n; omega
    go_wp2
    refine bodyPost_ret (by simp [results, Try.results25, go_sem, *]; try rfl) rfl ?_
    refine ⟨by first | rfl | simp, ?_⟩
    repeat' (first | (with_reducible exact Below.refl _ _) | (with_reducible assumption) | (with_reducible refine Below.alloc ?_ ?_ _) | (with_reducible refine Below.drew ?_) | (with_reducible refine bdrewN ?_ _) | (with_reducible refine Below.setCell ?_ ?_ _) | (with_reducible refine bthen ?_ (by assumption) ?_) | go_size)
  · have HK := Lib.hid hk
    have kF := fun v w h => l05At_ok v s w h hk
    have hfp : fpM s = if faB s then ((faM s).1, (faM s).2, 0) else (0, 0, 5) := by unfold fpM; rw [if_pos hk]
    rw [HF.out] at hfp
    have hbd := fun h => fa_bad (s := s) h
    cases hb : faB s
    · rw [hb, hbd hb] at kF
      rw [hb] at hfp
      obtain rfl : F = (0, 0, 5) := hfp
      clear hb
      clear hk HF hbd
      go_enter Try.func25, Try.ntmps25
      go_wp2_with fail
      apply Calls.mono
      · with_reducible exact l05Ok_any _ s.length s _ (HVR.out _ bel0) hn true HK.out
      rintro _ w1 ⟨rfl, hb_w1⟩
      obtain ⟨hc_w1, hf_w1, hs_w1⟩ := bcell hb_w1
      try simp at hs_w1
      have hz_w1_w0 : w.heap.size < w1.heap.size := by omega
      have hy_w1_w0 : w.heap.size ≤ w1.heap.size := by omega
      have hx_w1_w0 : ∀ n : Nat, w.heap.size < w1.heap.size + n := by intro n; omega
      have hv_w1_w0 : ∀ n : Nat, w.heap.size ≤ w1.heap.size + n := by intro n; omega
      have bel1 := bthen bel0 hb_w1 bel0.size
      have hB1 := (Blk.new w 24 #[.int .i64 0, .int .i64 0]).below hb_w1 (by rw [World.size_alloc]; omega)
      go_wp2_with fail
      apply Calls.mono
      · with_reducible exact kF _ _ (HV.out _ bel1)
      rintro _ w2 ⟨rfl, hb_w2⟩
      have hB2 := hB1.below hb_w2 hB1.lt
      have bel2 := bthen bel1 hb_w2 bel1.size
      have d0 : w2.cell? ⟨w.heap.size, 0, none⟩ = some (.int .i64 0) := hB2.cell 0
      have d1 : w2.cell? ⟨w.heap.size, 1, none⟩ = some (.int .i64 0) := hB2.cell 1
      have d2 : w2.frozen? ⟨w.heap.size, 0, none⟩ = false := hB2.frozen 0
      have d3 : w2.frozen? ⟨w.heap.size, 1, none⟩ = false := hB2.frozen 1
      have zB := hB2.lt
      have zC : w.heap.size ≠ w2.heap.size := by omega
      clear hB1 hB2 hb_w1 hc_w1 hf_w1 hb_w2 kF bel1
      go_wp2
      refine bodyPost_ret (by simp [results, Try.results25, go_sem, *]; try rfl) rfl ?_
      refine ⟨by first | rfl | simp, ?_⟩
      repeat' (first | (with_reducible exact Below.refl _ _) | (with_reducible assumption) | (with_reducible refine Below.alloc ?_ ?_ _) | (with_reducible refine Below.drew ?_) | (with_reducible refine bdrewN ?_ _) | (with_reducible refine Below.setCell ?_ ?_ _) | (with_reducible refine bthen ?_ (by assumption) ?_) | go_size)
    · rw [hb] at kF hfp
      generalize faM s = f at *
      obtain rfl : F = (f.1, f.2, 0) := hfp
      clear hb
      clear hk HF hbd
      go_enter Try.func25, Try.ntmps25
      go_wp2_with fail
      apply Calls.mono
      · with_reducible exact l05Ok_any _ s.length s _ (HVR.out _ bel0) hn true HK.out
      rintro _ w1 ⟨rfl, hb_w1⟩
      obtain ⟨hc_w1, hf_w1, hs_w1⟩ := bcell hb_w1
      try simp at hs_w1
      have hz_w1_w0 : w.heap.size < w1.heap.size := by omega
      have hy_w1_w0 : w.heap.size ≤ w1.heap.size := by omega
      have hx_w1_w0 : ∀ n : Nat, w.heap.size < w1.heap.size + n := by intro n; omega
      have hv_w1_w0 : ∀ n : Nat, w.heap.size ≤ w1.heap.size + n := by intro n; omega
      have bel1 := bthen bel0 hb_w1 bel0.size
      have hB1 := (Blk.new w 24 #[.int .i64 0, .int .i64 0]).below hb_w1 (by rw [World.size_alloc]; omega)
      go_wp2_with fail
      apply Calls.mono
      · with_reducible exact kF _ _ (HV.out _ bel1)
      rintro _ w2 ⟨rfl, hb_w2⟩
      have hB2 := hB1.below hb_w2 hB1.lt
      have bel2 := bthen bel1 hb_w2 bel1.size
      have d0 : w2.cell? ⟨w.heap.size, 0, none⟩ = some (.int .i64 0) := hB2.cell 0
      have d1 : w2.cell? ⟨w.heap.size, 1, none⟩ = some (.int .i64 0) := hB2.cell 1
      have d2 : w2.frozen? ⟨w.heap.size, 0, none⟩ = false := hB2.frozen 0
      have d3 : w2.frozen? ⟨w.heap.size, 1, none⟩ = false := hB2.frozen 1
      have zB := hB2.lt
      have zC : w.heap.size ≠ w2.heap.size := by omega
      clear hB1 hB2 hb_w1 hc_w1 hf_w1 hb_w2 kF bel1
      go_wp2
      refine bodyPost_ret (by simp [results, Try.results25, go_sem, *]; try rfl) rfl ?_
      refine ⟨by first | rfl | simp, ?_⟩
      repeat' (first | (with_reducible exact Below.refl _ _) | (with_reducible assumption) | (with_reducible refine Below.alloc ?_ ?_ _) | (with_reducible refine Below.drew ?_) | (with_reducible refine bdrewN ?_ _) | (with_reducible refine Below.setCell ?_ ?_ _) | (with_reducible refine bthen ?_ (by assumption) ?_) | go_size)
theorem validPathS_any (v : Value) (n : Nat) (rs : List Int) (w : World) (hv : Rd w 1 v n (ints rs)) (hn : n ≤ 1048576) (r : Bool) (hr : okR rs = r) : Calls Try.prog 28 #[v] w (Ret w (.bool r)) := by
  obtain ⟨A, c, rfl, -⟩ := id hv
  go_enter Try.func28, Try.ntmps28
  go_wp2_with fail
  apply Calls.mono
  · with_reducible exact l05Ok_any _ n rs _ hv hn r hr
  rintro _ w1 ⟨rfl, hb_w1⟩
  obtain ⟨hc_w1, hf_w1, hs_w1⟩ := bcell hb_w1
  try simp at hs_w1
  go_wp2
  go_ret
  refine ⟨by first | rfl | (simp), ?_⟩
  repeat' (first | (with_reducible exact Below.refl _ _) | (with_reducible assumption) | (with_reducible refine Below.alloc ?_ ?_ _) | (with_reducible refine Below.drew ?_) | (with_reducible refine bdrewN ?_ _) | (with_reducible refine Below.setCell ?_ ?_ _) | (with_reducible refine bthen ?_ (by assumption) ?_) | go_size)
/-- A row of its own and a code came back. -/
def RetPC (w : World) (e : TypeId) (size n : Nat) (xs : List Value) (code : Int) (en : Ending) (w' : World) : Prop := ∃ v, en = .returned (.tuple #[v, .int .i64 code]) ∧ w'.ownsRow w.heap.size e size v n xs ∧ Below w.heap.size w w'
set_option maxHeartbeats 1000000 in
theorem pathI_any (n d : Int) (w : World) : Calls Try.prog 16 #[.agg #[.int .i64 n, .int .i64 d]] w (RetPC w 2 1 (ptP n d).length (ints (ptP n d)) (posC n d)) := by
  obtain ⟨r, hr⟩ : ∃ r, posC n d = r := ⟨_, rfl⟩
  have H := Lib.hid (posC_one (fun _ => n) (fun _ => d) 1 rfl hr)
  by_cases h0 : r = 0
  · subst h0
    obtain ⟨hok, ⟨n1, n2⟩, d1, d2⟩ := pos_facts hr
    obtain ⟨i, l, hL, E⟩ := ex_all n1 n2 d1 d2
    have kP := fun w => pathTo_any n d n1 n2 d1 d2 i l hL E w
    rw [pt_of hr hL, hr]
    generalize pthL i l = s at *
    clear hr hL E hok
    go_enter Try.func16, Try.ntmps16
    go_wp2_with fail
    apply Calls.mono
    · with_reducible exact checkPositive_any 1 1 _ (fun _ => n) (fun _ => d) (by omega) (by omega) (by omega) _ (by simp) (by intro j hj; obtain rfl : j = 0 := (by omega); exact ⟨(blk_at1' w _ _ _).cell 0, (blk_at1' w _ _ _).cell 1⟩) 0 H.out
    rintro _ w1 ⟨rfl, hb_w1⟩
    obtain ⟨hc_w1, hf_w1, hs_w1⟩ := bcell hb_w1
    try simp at hs_w1
    have hz_w1_w0 : w.heap.size < w1.heap.size := by omega
    have hy_w1_w0 : w.heap.size ≤ w1.heap.size := by omega
    have hx_w1_w0 : ∀ n : Nat, w.heap.size < w1.heap.size + n := by intro n; omega
    have hv_w1_w0 : ∀ n : Nat, w.heap.size ≤ w1.heap.size + n := by intro n; omega
    have hz_w1_w1 : w.heap.size + 1 < w1.heap.size := by omega
    have hy_w1_w1 : w.heap.size + 1 ≤ w1.heap.size := by omega
    have hx_w1_w1 : ∀ n : Nat, w.heap.size + 1 < w1.heap.size + n := by intro n; omega
    have hv_w1_w1 : ∀ n : Nat, w.heap.size + 1 ≤ w1.heap.size + n := by intro n; omega
    go_wp2_with fail
    apply Calls.mono
    · with_reducible exact kP _
    rintro _ w2 ⟨v2, rfl, ho2, hb_w2⟩
    obtain ⟨a2, c2, rfl⟩ := own_slice ho2
    obtain ⟨hc_w2, hf_w2, hs_w2⟩ := bcell hb_w2
    try simp at hs_w2
    have hz_w2_w0 : w.heap.size < w2.heap.size := by omega
    have hy_w2_w0 : w.heap.size ≤ w2.heap.size := by omega
    have hx_w2_w0 : ∀ n : Nat, w.heap.size < w2.heap.size + n := by intro n; omega
    have hv_w2_w0 : ∀ n : Nat, w.heap.size ≤ w2.heap.size + n := by intro n; omega
    have hz_w2_w1 : w.heap.size + 1 < w2.heap.size := by omega
    have hy_w2_w1 : w.heap.size + 1 ≤ w2.heap.size := by omega
    have hx_w2_w1 : ∀ n : Nat, w.heap.size + 1 < w2.heap.size + n := by intro n; omega
    have hv_w2_w1 : ∀ n : Nat, w.heap.size + 1 ≤ w2.heap.size + n := by intro n; omega
    have hbw : Below w.heap.size w w2 := by repeat' (first | (with_reducible exact Below.refl _ _) | (with_reducible assumption) | (with_reducible refine Below.alloc ?_ ?_ _) | (with_reducible refine Below.drew ?_) | (with_reducible refine bdrewN ?_ _) | (with_reducible refine Below.setCell ?_ ?_ _) | (with_reducible refine bthen ?_ (by assumption) ?_) | go_size)
    go_wp2
    go_ret2
    exact ⟨_, rfl, own_base ho2 (by omega), hbw⟩
  · have hp : ptP n d = [] := by unfold ptP; rw [if_neg (by rw [hr]; exact h0)]
    rw [hp, hr]
    have hne : (r != 0) = true := by simp [h0]
    clear hr h0 hp
    go_enter Try.func16, Try.ntmps16
    go_wp2_with fail
    apply Calls.mono
    · with_reducible exact checkPositive_any 1 1 _ (fun _ => n) (fun _ => d) (by omega) (by omega) (by omega) _ (by simp) (by intro j hj; obtain rfl : j = 0 := (by omega); exact ⟨(blk_at1' w _ _ _).cell 0, (blk_at1' w _ _ _).cell 1⟩) r H.out
    rintro _ w1 ⟨rfl, hb_w1⟩
    obtain ⟨hc_w1, hf_w1, hs_w1⟩ := bcell hb_w1
    try simp at hs_w1
    have hz_w1_w0 : w.heap.size < w1.heap.size := by omega
    have hy_w1_w0 : w.heap.size ≤ w1.heap.size := by omega
    have hx_w1_w0 : ∀ n : Nat, w.heap.size < w1.heap.size + n := by intro n; omega
    have hv_w1_w0 : ∀ n : Nat, w.heap.size ≤ w1.heap.size + n := by intro n; omega
    have hz_w1_w1 : w.heap.size + 1 < w1.heap.size := by omega
    have hy_w1_w1 : w.heap.size + 1 ≤ w1.heap.size := by omega
    have hx_w1_w1 : ∀ n : Nat, w.heap.size + 1 < w1.heap.size + n := by intro n; omega
    have hv_w1_w1 : ∀ n : Nat, w.heap.size + 1 ≤ w1.heap.size + n := by intro n; omega
    have hbw : Below w.heap.size w w1 := by repeat' (first | (with_reducible exact Below.refl _ _) | (with_reducible assumption) | (with_reducible refine Below.alloc ?_ ?_ _) | (with_reducible refine Below.drew ?_) | (with_reducible refine bdrewN ?_ _) | (with_reducible refine Below.setCell ?_ ?_ _) | (with_reducible refine bthen ?_ (by assumption) ?_) | go_size)
    go_wp2
    go_ret2
    exact ⟨_, rfl, World.ownsRow_nil _ _ _ _, hbw⟩
set_option maxHeartbeats 1000000 in
theorem pathS_any (n d : Int) (w : World) : Calls Try.prog 17 #[.agg #[.int .i64 n, .int .i64 d]] w (RetPC w 2 1 (ptP n d).length (ints (ptP n d)) (posC n d)) := by
  obtain ⟨r, hr⟩ : ∃ r, posC n d = r := ⟨_, rfl⟩
  have H := Lib.hid hr
  by_cases h0 : r = 0
  · subst h0
    obtain ⟨hok, ⟨n1, n2⟩, d1, d2⟩ := pos_facts hr
    obtain ⟨i, l, hL, E⟩ := ex_all n1 n2 d1 d2
    have kP := fun w => l05Path_any n d n1 n2 d1 d2 i l hL E w
    rw [pt_of hr hL, hr]
    generalize pthL i l = s at *
    clear hr hL E hok
    go_enter Try.func17, Try.ntmps17
    go_wp2_with fail
    apply Calls.mono
    · with_reducible exact l05Code_any _ _ 0 H.out _
    rintro _ w1 ⟨rfl, hb_w1⟩
    obtain ⟨hc_w1, hf_w1, hs_w1⟩ := bcell hb_w1
    try simp at hs_w1
    have hz_w1_w0 : w.heap.size < w1.heap.size := by omega
    have hy_w1_w0 : w.heap.size ≤ w1.heap.size := by omega
    have hx_w1_w0 : ∀ n : Nat, w.heap.size < w1.heap.size + n := by intro n; omega
    have hv_w1_w0 : ∀ n : Nat, w.heap.size ≤ w1.heap.size + n := by intro n; omega
    go_wp2_with fail
    apply Calls.mono
    · with_reducible exact kP _
    rintro _ w2 ⟨v2, rfl, ho2, hb_w2⟩
    obtain ⟨a2, c2, rfl⟩ := own_slice ho2
    obtain ⟨hc_w2, hf_w2, hs_w2⟩ := bcell hb_w2
    try simp at hs_w2
    have hz_w2_w0 : w.heap.size < w2.heap.size := by omega
    have hy_w2_w0 : w.heap.size ≤ w2.heap.size := by omega
    have hx_w2_w0 : ∀ n : Nat, w.heap.size < w2.heap.size + n := by intro n; omega
    have hv_w2_w0 : ∀ n : Nat, w.heap.size ≤ w2.heap.size + n := by intro n; omega
    have hbw : Below w.heap.size w w2 := by repeat' (first | (with_reducible exact Below.refl _ _) | (with_reducible assumption) | (with_reducible refine Below.alloc ?_ ?_ _) | (with_reducible refine Below.drew ?_) | (with_reducible refine bdrewN ?_ _) | (with_reducible refine Below.setCell ?_ ?_ _) | (with_reducible refine bthen ?_ (by assumption) ?_) | go_size)
    go_wp2
    go_ret2
    exact ⟨_, rfl, own_base ho2 (by omega), hbw⟩
  · have hp : ptP n d = [] := by unfold ptP; rw [if_neg (by rw [hr]; exact h0)]
    rw [hp, hr]
    have hne : (r != 0) = true := by simp [h0]
    clear hr h0 hp
    go_enter Try.func17, Try.ntmps17
    go_wp2_with fail
    apply Calls.mono
    · with_reducible exact l05Code_any _ _ r H.out _
    rintro _ w1 ⟨rfl, hb_w1⟩
    obtain ⟨hc_w1, hf_w1, hs_w1⟩ := bcell hb_w1
    try simp at hs_w1
    have hz_w1_w0 : w.heap.size < w1.heap.size := by omega
    have hy_w1_w0 : w.heap.size ≤ w1.heap.size := by omega
    have hx_w1_w0 : ∀ n : Nat, w.heap.size < w1.heap.size + n := by intro n; omega
    have hv_w1_w0 : ∀ n : Nat, w.heap.size ≤ w1.heap.size + n := by intro n; omega
    have hbw : Below w.heap.size w w1 := by repeat' (first | (with_reducible exact Below.refl _ _) | (with_reducible assumption) | (with_reducible refine Below.alloc ?_ ?_ _) | (with_reducible refine Below.drew ?_) | (with_reducible refine bdrewN ?_ _) | (with_reducible refine Below.setCell ?_ ?_ _) | (with_reducible refine bthen ?_ (by assumption) ?_) | go_size)
    go_wp2
    go_ret2
    exact ⟨_, rfl, World.ownsRow_nil _ _ _ _, hbw⟩
def sumN (s : List Int) (j : Nat) : Int := (s.take j).sum
theorem sumN_succ {s : List Int} {j : Nat} {x : Int} (h : s[j]? = some x) : sumN s (j + 1) = sumN s j + x := by
  unfold sumN
  rw [List.take_add_one, h]
  simp
theorem sumN_bd {s : List Int} (h : ∀ t ∈ s, 0 ≤ t ∧ t ≤ 1000000000) : ∀ j : Nat, 0 ≤ sumN s j ∧ sumN s j ≤ (j : Int) * 1000000000
  | 0 => by simp [sumN]
  | j + 1 => by
    have ih := sumN_bd h j
    cases hx : s[j]? with
    | none =>
      have : sumN s (j + 1) = sumN s j := by unfold sumN; rw [List.take_add_one, hx]; simp
      rw [this]; omega
    | some x =>
      rw [sumN_succ hx]
      have := h x (List.mem_of_getElem? hx)
      omega
def SuR (w : World) (s : List Int) (n : Nat) (k : Nat) (a i : Value) (wr : World) : Prop :=
  ∃ j : Nat, j ≤ n ∧ n ≤ j + k ∧ i = .int .i64 j ∧ a = .int .i64 (sumN s j) ∧ Below w.heap.size w wr
set_option maxHeartbeats 1000000 in
theorem l05Sum_any (v : Value) (n : Nat) (s : List Int) (w : World) (hv : Rd w 1 v n (ints s)) (hn : n ≤ 60) (hs : ∀ t ∈ s, 0 ≤ t ∧ t ≤ 1000000000) : Calls Try.prog 71 #[v] w (Ret w (.int .i64 s.sum)) := by
  have hl : s.length = n := by have := (rd_len hv).1; rw [ints_len] at this; omega
  have hsum : sumN s n = s.sum := by unfold sumN; rw [List.take_of_length_le (by omega)]
  have HB := Lib.hid (sumN_bd hs)
  have HL := Lib.hid hl
  rw [← hsum]
  obtain ⟨A, c, rfl, hn1, hc1, _, hr1⟩ := hv
  have R1 := Lib.hid hr1
  clear hr1 hl hs hsum
  go_enter Try.func71, Try.ntmps71
  go_wp2_with fail
  go_loopg [3, 4] n (fun k a i wr => SuR w s n k a i wr)
  case atStart => exact ⟨0, by omega, by omega, rfl, rfl, Below.refl _ _⟩
  case round =>
    obtain ⟨j, hj1, hj2, rfl, rfl, hbw⟩ := hrel
    have hs := hbw.size
    by_cases hjn : j < n
    · obtain ⟨x, hx⟩ := get_ex (l := s) (k := j) (by have := HL.out; omega)
      rcases R1.out with h0 | ⟨g, o, rfl, hg, hcell⟩
      · omega
      have c1 : wr.cell? ⟨g, o + j, none⟩ = some (.int .i64 x) := (hbw.cell (p := ⟨g, o + j, none⟩) hg).trans (hcell j _ (ints_get hx))
      have hgw : g < wr.heap.size := by omega
      have hjn' : (j : Int) < (n : Int) := by omega
      have b1 := HB.out j
      have b2 := HB.out (j + 1)
      rw [sumN_succ hx] at b2
      have HS := Lib.hid (sumN_succ hx)
      clear hx hcell R1
      generalize hq : sumN s j = q at *
      go_wp2
      go_roundg (gk - 1)
      case measure => omega
      case rel => exact ⟨j + 1, by omega, by omega, by go_num, by rw [HS.out], hbw⟩
    · obtain rfl : j = n := by omega
      have b1 := HB.out j
      go_wp2
      go_ret
      refine ⟨by first | rfl | (simp), ?_⟩
      repeat' (first | (with_reducible exact Below.refl _ _) | (with_reducible assumption) | (with_reducible refine Below.alloc ?_ ?_ _) | (with_reducible refine Below.drew ?_) | (with_reducible refine bdrewN ?_ _) | (with_reducible refine Below.setCell ?_ ?_ _) | (with_reducible refine bthen ?_ (by assumption) ?_) | go_size)
end Go.Proofs.Ytlmmpeeacjbobaa
