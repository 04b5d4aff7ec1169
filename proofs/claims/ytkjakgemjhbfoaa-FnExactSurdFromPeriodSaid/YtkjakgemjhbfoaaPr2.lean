/-
  The period of a surd: both packages' codes, the exported lengths, and the roots' periods.
-/
import Derived.Test.YtkjakgemjhbfoaaPr
namespace Go.Proofs.Ytkjakgemjhbfoaa
open Go.RowKit

def prM (p d q : Int) : List Int × List Int × Int :=
  if okS p d q then (match wk d (p, q) with
    | some (j, m) => ((tmL d (orb d (p, q)) m).take j, (tmL d (orb d (p, q)) m).drop j, 0)
    | none => ([], [], 5)) else ([], [], 1)
theorem pr_some {p d q : Int} {j m : Nat} (h : okS p d q = true) (hw : wk d (p, q) = some (j, m)) : prM p d q = ((tmL d (orb d (p, q)) m).take j, (tmL d (orb d (p, q)) m).drop j, 0) := by unfold prM; rw [if_pos h, hw]
theorem pr_none {p d q : Int} (h : okS p d q = true) (hw : wk d (p, q) = none) : prM p d q = ([], [], 5) := by unfold prM; rw [if_pos h, hw]
theorem pr_bad {p d q : Int} (h : okS p d q = false) : prM p d q = ([], [], 1) := by unfold prM; rw [if_neg (by rw [h]; decide)]
def PofP (w : World) (M : List Int × List Int × Int) (e : Ending) (w' : World) : Prop :=
  ∃ v1 v2, e = .returned (.tuple #[v1, v2, .int .i64 M.2.2]) ∧ w'.ownsRow w.heap.size 2 1 v1 M.1.length (ints M.1) ∧ w'.ownsRow w.heap.size 2 1 v2 M.2.1.length (ints M.2.1) ∧ (v1.ownBlock = none ∨ v1.ownBlock ≠ v2.ownBlock) ∧ Below w.heap.size w w'
def CodeP (w : World) (p d q : Int) (e : Ending) (w' : World) : Prop :=
  ∃ (g n : Nat) (vs vt : Value) (fr : Int), e = .returned (.tuple #[.pointer (some ⟨g, 0, none⟩), .int .i64 (prM p d q).2.2]) ∧ w.heap.size ≤ g ∧ Blk w' g 91 #[vs, vt, .int .i64 fr] ∧
    w'.ownsRow w.heap.size 50 3 vs n (srd d (osn (orb d (p, q)) n)) ∧ w'.ownsRow w.heap.size 2 1 vt n (ints (tmL d (orb d (p, q)) n)) ∧ Below w.heap.size w w' ∧ n ≤ 401 ∧ (∀ j m, okS p d q = true → wk d (p, q) = some (j, m) → m = n ∧ fr = (j : Int))
theorem pr_len {p d q : Int} {j m : Nat} (h : okS p d q = true) (hw : wk d (p, q) = some (j, m)) : (prM p d q).1.length = j ∧ (prM p d q).2.1.length = m - j ∧ j < m ∧ m ≤ 400 := by
  rw [pr_some h hw]
  obtain ⟨a, b, _⟩ := wk_some hw h
  refine ⟨?_, ?_, a, b⟩
  · simp only [List.length_take, tmL_len]; omega
  · simp only [List.length_drop, tmL_len]
theorem pr_small (p d q : Int) : (prM p d q).1.length ≤ 400 ∧ (prM p d q).2.1.length ≤ 400 := by
  cases h : okS p d q
  · rw [pr_bad h]; simp
  · cases hw : wk d (p, q) with
    | none => rw [pr_none h hw]; simp
    | some z =>
      obtain ⟨j, m⟩ := z
      obtain ⟨a, b, c, e⟩ := pr_len h hw
      omega
theorem sizeI_any (v : Value) (n : Nat) (xs : List Value) (w : World) (hv : Rd w 1 v n xs) : Calls Try.prog 56 #[v] w (Ret w (.int .i64 n)) := by
  obtain ⟨A, c, rfl, hn1, hc1, _, hr1⟩ := hv
  have hn : (n : Int) ≤ 9223372036854775807 := by simp only [maxLen] at hc1; omega
  clear hr1
  go_enter Try.func56, Try.ntmps56
  go_wp2
  go_ret
  refine ⟨by first | rfl | (simp), ?_⟩
  repeat' (first | (with_reducible exact Below.refl _ _) | (with_reducible assumption) | (with_reducible refine Below.alloc ?_ ?_ _) | (with_reducible refine Below.drew ?_) | (with_reducible refine bdrewN ?_ _) | (with_reducible refine Below.setCell ?_ ?_ _) | (with_reducible refine bthen ?_ (by assumption) ?_) | go_size)
set_option maxHeartbeats 1000000 in
theorem periodOfI_any (p d q : Int) (w : World) : Calls Try.prog 26 #[.agg #[.int .i64 p, .int .i64 d, .int .i64 q]] w (PofP w (prM p d q)) := by
  cases h : okS p d q
  · rw [pr_bad h]
    go_enter Try.func26, Try.ntmps26
    go_wp2_with fail
    apply Calls.mono
    · with_reducible exact validSurd_any _ _ _ false h _
    rintro _ w1 ⟨rfl, hb_w1⟩
    obtain ⟨hc_w1, hf_w1, hs_w1⟩ := bcell hb_w1
    try simp at hs_w1
    have hz_w1_w0 : w.heap.size < w1.heap.size := by omega
    have hy_w1_w0 : w.heap.size ≤ w1.heap.size := by omega
    have hx_w1_w0 : ∀ n : Nat, w.heap.size < w1.heap.size + n := by intro n; omega
    have hv_w1_w0 : ∀ n : Nat, w.heap.size ≤ w1.heap.size + n := by intro n; omega
    go_wp2
    go_ret3
    exact ⟨_, _, rfl, World.ownsRow_nil _ _ _ _, World.ownsRow_nil _ _ _ _, Or.inl rfl, by repeat' (first | (with_reducible exact Below.refl _ _) | (with_reducible assumption) | (with_reducible refine Below.alloc ?_ ?_ _) | (with_reducible refine Below.drew ?_) | (with_reducible refine bdrewN ?_ _) | (with_reducible refine Below.setCell ?_ ?_ _) | (with_reducible refine bthen ?_ (by assumption) ?_) | go_size)⟩
  · have kP := fun w => periodOf_any p d q h w
    have hlen := fun {j m} => pr_len (j := j) (m := m) h
    have e1 := fun {j m} => pr_some (j := j) (m := m) h
    have e2 := pr_none h
    generalize orb d (p, q) = o at *
    generalize wk d (p, q) = r at *
    generalize prM p d q = M at *
    have H := Lib.hid h
    clear h
    go_enter Try.func26, Try.ntmps26
    go_wp2_with fail
    apply Calls.mono
    · with_reducible exact validSurd_any _ _ _ true H.out _
    rintro _ w1 ⟨rfl, hb_w1⟩
    obtain ⟨hc_w1, hf_w1, hs_w1⟩ := bcell hb_w1
    try simp at hs_w1
    have hz_w1_w0 : w.heap.size < w1.heap.size := by omega
    have hy_w1_w0 : w.heap.size ≤ w1.heap.size := by omega
    have hx_w1_w0 : ∀ n : Nat, w.heap.size < w1.heap.size + n := by intro n; omega
    have hv_w1_w0 : ∀ n : Nat, w.heap.size ≤ w1.heap.size + n := by intro n; omega
    go_wp2_with fail
    apply Calls.mono
    · with_reducible exact kP _
    rintro _ w2 (⟨j, m, v1, v2, hr, rfl, ho1, ho2, hap, hb_w2⟩ | ⟨hr, rfl, hb_w2⟩)
    · obtain ⟨l1, l2, _⟩ := hlen hr
      have e3 := e1 hr
      clear hlen e1 e2 kP
      subst e3
      simp only at l1 l2
      go_wp2
      go_ret3
      refine ⟨v1, v2, rfl, ?_, ?_, hap, by repeat' (first | (with_reducible exact Below.refl _ _) | (with_reducible assumption) | (with_reducible refine Below.alloc ?_ ?_ _) | (with_reducible refine Below.drew ?_) | (with_reducible refine bdrewN ?_ _) | (with_reducible refine Below.setCell ?_ ?_ _) | (with_reducible refine bthen ?_ (by assumption) ?_) | go_size)⟩
      · simp only; rw [l1]; exact own_base ho1 (by omega)
      · simp only; rw [l2]; exact own_base ho2 (by omega)
    · have e3 := e2 hr
      clear hlen e1 e2 kP
      subst e3
      go_wp2
      go_ret3
      exact ⟨_, _, rfl, World.ownsRow_nil _ _ _ _, World.ownsRow_nil _ _ _ _, Or.inl rfl, by repeat' (first | (with_reducible exact Below.refl _ _) | (with_reducible assumption) | (with_reducible refine Below.alloc ?_ ?_ _) | (with_reducible refine Below.drew ?_) | (with_reducible refine bdrewN ?_ _) | (with_reducible refine Below.setCell ?_ ?_ _) | (with_reducible refine bthen ?_ (by assumption) ?_) | go_size)⟩
theorem periodLengthI_any (p d q : Int) (w : World) : Calls Try.prog 27 #[.agg #[.int .i64 p, .int .i64 d, .int .i64 q]] w (Ret w (.tuple #[.int .i64 ((prM p d q).2.1.length : Nat), .int .i64 (prM p d q).2.2])) := by
  have kP := fun w => periodOfI_any p d q w
  obtain ⟨s1, s2⟩ := pr_small p d q
  generalize prM p d q = M at *
  go_enter Try.func27, Try.ntmps27
  go_wp2_with fail
  apply Calls.mono
  · with_reducible exact kP _
  rintro _ w1 ⟨v1, v2, rfl, ho1, ho2, hap, hb_w1⟩
  go_wp2_with fail
  apply Calls.mono
  · with_reducible exact sizeI_any _ _ _ _ (Rd.of_own ho2)
  rintro _ w2 ⟨rfl, hb_w2⟩
  have s3 : w.heap.size ≤ w1.heap.size := by
    have := hb_w1.size
    rw [World.size_alloc] at this
    omega
  go_wp2
  go_ret2
  refine ⟨by first | rfl | (simp), ?_⟩
  repeat' (first | (with_reducible exact Below.refl _ _) | (with_reducible assumption) | (with_reducible refine Below.alloc ?_ ?_ _) | (with_reducible refine Below.drew ?_) | (with_reducible refine bdrewN ?_ _) | (with_reducible refine Below.setCell ?_ ?_ _) | (with_reducible refine bthen ?_ (by assumption) ?_) | go_size)
theorem isPurelyI_any (p d q : Int) (w : World) : Calls Try.prog 28 #[.agg #[.int .i64 p, .int .i64 d, .int .i64 q]] w (Ret w (.tuple #[.bool ((prM p d q).2.2 == 0 && (((prM p d q).1.length : Nat) : Int) == 0), .int .i64 (prM p d q).2.2])) := by
  have kP := fun w => periodOfI_any p d q w
  obtain ⟨s1, s2⟩ := pr_small p d q
  unfold PofP at kP
  generalize prM p d q = M at *
  obtain ⟨xs, ys, c⟩ := M
  simp only at kP s1 s2 ⊢
  generalize hn1 : xs.length = n1 at *
  cases hc : (c == 0)
  · rw [Bool.false_and]
    go_enter Try.func28, Try.ntmps28
    go_wp2_with fail
    apply Calls.mono
    · with_reducible exact kP _
    rintro _ w1 ⟨v1, v2, rfl, ho1, ho2, hap, hb_w1⟩
    obtain ⟨va, vc, rfl⟩ := row_slice ho1
    clear hn1
    go_wp2
    go_ret2
    refine ⟨by first | rfl | (simp), ?_⟩
    repeat' (first | (with_reducible exact Below.refl _ _) | (with_reducible assumption) | (with_reducible refine Below.alloc ?_ ?_ _) | (with_reducible refine Below.drew ?_) | (with_reducible refine bdrewN ?_ _) | (with_reducible refine Below.setCell ?_ ?_ _) | (with_reducible refine bthen ?_ (by assumption) ?_) | go_size)
  · rw [Bool.true_and]
    go_enter Try.func28, Try.ntmps28
    go_wp2_with fail
    apply Calls.mono
    · with_reducible exact kP _
    rintro _ w1 ⟨v1, v2, rfl, ho1, ho2, hap, hb_w1⟩
    obtain ⟨va, vc, rfl⟩ := row_slice ho1
    clear hn1
    go_wp2
    go_ret2
    refine ⟨by first | rfl | (simp), ?_⟩
    repeat' (first | (with_reducible exact Below.refl _ _) | (with_reducible assumption) | (with_reducible refine Below.alloc ?_ ?_ _) | (with_reducible refine Below.drew ?_) | (with_reducible refine bdrewN ?_ _) | (with_reducible refine Below.setCell ?_ ?_ _) | (with_reducible refine bthen ?_ (by assumption) ?_) | go_size)
set_option maxHeartbeats 1000000 in
theorem l08Code_any (p d q : Int) (w : World) : Calls Try.prog 57 #[.agg #[.int .i64 p, .int .i64 d, .int .i64 q]] w (CodeP w p d q) := by
  cases h : okS p d q
  · have e : (prM p d q).2.2 = 1 := by rw [pr_bad h]
    unfold CodeP
    rw [e, h]
    generalize orb d (p, q) = o at *
    clear e
    go_enter Try.func57, Try.ntmps57
    go_wp2_with fail
    apply Calls.mono
    · with_reducible exact l07Ok_any _ _ _ false h _
    rintro _ w1 ⟨rfl, hb_w1⟩
    obtain ⟨hc_w1, hf_w1, hs_w1⟩ := bcell hb_w1
    try simp at hs_w1
    have hz_w1_w0 : w.heap.size < w1.heap.size := by omega
    have hy_w1_w0 : w.heap.size ≤ w1.heap.size := by omega
    have hx_w1_w0 : ∀ n : Nat, w.heap.size < w1.heap.size + n := by intro n; omega
    have hv_w1_w0 : ∀ n : Nat, w.heap.size ≤ w1.heap.size + n := by intro n; omega
    go_wp2
    go_ret2
    have s1 := hb_w1.size
    rw [World.size_alloc] at s1
    exact ⟨w1.heap.size, 0, _, _, 0, rfl, by omega, Blk.new w1 _ _, World.ownsRow_nil _ _ _ _, World.ownsRow_nil _ _ _ _, by repeat' (first | (with_reducible exact Below.refl _ _) | (with_reducible assumption) | (with_reducible refine Below.alloc ?_ ?_ _) | (with_reducible refine Below.drew ?_) | (with_reducible refine bdrewN ?_ _) | (with_reducible refine Below.setCell ?_ ?_ _) | (with_reducible refine bthen ?_ (by assumption) ?_) | go_size), by omega, fun j m hh => by cases hh⟩
  · have kW := fun w => l08Walk_any p d q h w
    have e1 := fun {j m} => pr_some (j := j) (m := m) h
    have e2 := pr_none h
    unfold CodeP
    generalize orb d (p, q) = o at *
    generalize wk d (p, q) = r at *
    have H := Lib.hid h
    clear h
    cases r with
    | none =>
      have e : (prM p d q).2.2 = 5 := by rw [e2 rfl]
      rw [e]
      clear e e1 e2
      go_enter Try.func57, Try.ntmps57
      go_wp2_with fail
      apply Calls.mono
      · with_reducible exact l07Ok_any _ _ _ true H.out _
      rintro _ w1 ⟨rfl, hb_w1⟩
      obtain ⟨hc_w1, hf_w1, hs_w1⟩ := bcell hb_w1
      try simp at hs_w1
      have hz_w1_w0 : w.heap.size < w1.heap.size := by omega
      have hy_w1_w0 : w.heap.size ≤ w1.heap.size := by omega
      have hx_w1_w0 : ∀ n : Nat, w.heap.size < w1.heap.size + n := by intro n; omega
      have hv_w1_w0 : ∀ n : Nat, w.heap.size ≤ w1.heap.size + n := by intro n; omega
      go_wp2_with fail
      apply Calls.mono
      · with_reducible exact kW _
      rintro _ w2 ⟨g, n, vs, vt, fr, rfl, hg, hW, hos, hot, hb_w2, hn, hj⟩
      simp only [Option.isSome_none]
      go_wp2
      go_ret2
      exact ⟨g, n, vs, vt, fr, rfl, by omega, hW, own_base hos (by omega), own_base hot (by omega), by repeat' (first | (with_reducible exact Below.refl _ _) | (with_reducible assumption) | (with_reducible refine Below.alloc ?_ ?_ _) | (with_reducible refine Below.drew ?_) | (with_reducible refine bdrewN ?_ _) | (with_reducible refine Below.setCell ?_ ?_ _) | (with_reducible refine bthen ?_ (by assumption) ?_) | go_size), hn, fun j m _ hh => by cases hh⟩
    | some z =>
      obtain ⟨j0, m0⟩ := z
      have e : (prM p d q).2.2 = 0 := by rw [e1 rfl]
      rw [e]
      clear e e1 e2
      go_enter Try.func57, Try.ntmps57
      go_wp2_with fail
      apply Calls.mono
      · with_reducible exact l07Ok_any _ _ _ true H.out _
      rintro _ w1 ⟨rfl, hb_w1⟩
      obtain ⟨hc_w1, hf_w1, hs_w1⟩ := bcell hb_w1
      try simp at hs_w1
      have hz_w1_w0 : w.heap.size < w1.heap.size := by omega
      have hy_w1_w0 : w.heap.size ≤ w1.heap.size := by omega
      have hx_w1_w0 : ∀ n : Nat, w.heap.size < w1.heap.size + n := by intro n; omega
      have hv_w1_w0 : ∀ n : Nat, w.heap.size ≤ w1.heap.size + n := by intro n; omega
      go_wp2_with fail
      apply Calls.mono
      · with_reducible exact kW _
      rintro _ w2 ⟨g, n, vs, vt, fr, rfl, hg, hW, hos, hot, hb_w2, hn, hj⟩
      simp only [Option.isSome_some]
      go_wp2
      go_ret2
      exact ⟨g, n, vs, vt, fr, rfl, by omega, hW, own_base hos (by omega), own_base hot (by omega), by repeat' (first | (with_reducible exact Below.refl _ _) | (with_reducible assumption) | (with_reducible refine Below.alloc ?_ ?_ _) | (with_reducible refine Below.drew ?_) | (with_reducible refine bdrewN ?_ _) | (with_reducible refine Below.setCell ?_ ?_ _) | (with_reducible refine bthen ?_ (by assumption) ?_) | go_size), hn, fun j m _ hh => hj j m hh⟩
set_option maxHeartbeats 1000000 in
theorem periodLengthS_any (p d q : Int) (w : World) : Calls Try.prog 23 #[.agg #[.int .i64 p, .int .i64 d, .int .i64 q]] w (Ret w (.tuple #[.int .i64 ((prM p d q).2.1.length : Nat), .int .i64 (prM p d q).2.2])) := by
  have kC := fun w => l08Code_any p d q w
  by_cases hc : (prM p d q).2.2 = 0
  · obtain ⟨h, j, m, hw⟩ : okS p d q = true ∧ ∃ j m, wk d (p, q) = some (j, m) := by
      cases h : okS p d q
      · rw [pr_bad h] at hc; cases hc
      · cases hw : wk d (p, q) with
        | none => rw [pr_none h hw] at hc; cases hc
        | some z => exact ⟨rfl, z.1, z.2, rfl⟩
    obtain ⟨l1, l2, hjm, hm4⟩ := pr_len h hw
    rw [l2, hc]
    unfold CodeP at kC
    simp only [hc] at kC
    have HH := Lib.hid h
    have HW := Lib.hid hw
    have e : ((m - j : Nat) : Int) = (m : Int) - (j : Int) := by omega
    rw [e]
    clear l1 l2 hc h hw e
    go_enter Try.func23, Try.ntmps23
    go_wp2_with fail
    apply Calls.mono
    · with_reducible exact kC _
    rintro _ w1 ⟨g, n, vs, vt, fr, rfl, hg, hW, hos, hot, hb_w1, hn, hj⟩
    obtain ⟨rfl, rfl⟩ := hj j m HH.out HW.out
    obtain ⟨va, vc, rfl⟩ := row_slice hot
    have s3 : w.heap.size ≤ w1.heap.size := by
      have := hb_w1.size
      rw [World.size_alloc] at this
      omega
    have s4 : w.heap.size < w1.heap.size := by
      have := hb_w1.size
      rw [World.size_alloc] at this
      omega
    have c1 : w1.cell? ⟨g, 1, none⟩ = some (.slice va m vc) := hW.cell 1
    have c2 : w1.cell? ⟨g, 2, none⟩ = some (.int .i64 (j : Int)) := hW.cell 2
    have hgw := hW.lt
    go_wp2_with fail
    refine wp_region_calm (by kernel_rfl) (by kernel_rfl) ?_
    repeat (go_big_quiet_step ((fail)))
    refine wpQuiet_nil ?_
    intro w2 hb_w2
    obtain ⟨hc_w2, hf_w2, hs_w2⟩ := bcell hb_w2
    try simp at hs_w2
    have hz_w2_w0 : w.heap.size < w2.heap.size := by omega
    have hy_w2_w0 : w.heap.size ≤ w2.heap.size := by omega
    have hx_w2_w0 : ∀ n : Nat, w.heap.size < w2.heap.size + n := by intro n; omega
    have hv_w2_w0 : ∀ n : Nat, w.heap.size ≤ w2.heap.size + n := by intro n; omega
    go_wp2
    go_ret2
    refine ⟨by first | rfl | (simp), ?_⟩
    repeat' (first | (with_reducible exact Below.refl _ _) | (with_reducible assumption) | (with_reducible refine Below.alloc ?_ ?_ _) | (with_reducible refine Below.drew ?_) | (with_reducible refine bdrewN ?_ _) | (with_reducible refine Below.setCell ?_ ?_ _) | (with_reducible refine bthen ?_ (by assumption) ?_) | go_size)
  · have e : (prM p d q).2.1.length = 0 := by
      cases h : okS p d q
      · rw [pr_bad h]; rfl
      · cases hw : wk d (p, q) with
        | none => rw [pr_none h hw]; rfl
        | some z => rw [pr_some h hw] at hc; exact absurd rfl hc
    rw [e]
    unfold CodeP at kC
    have hne : ((prM p d q).2.2 != 0) = true := by simpa using hc
    generalize (prM p d q).2.2 = c at *
    clear hc e
    go_enter Try.func23, Try.ntmps23
    go_wp2_with fail
    apply Calls.mono
    · with_reducible exact kC _
    rintro _ w1 ⟨g, n, vs, vt, fr, rfl, hg, hW, hos, hot, hb_w1, hn, hj⟩
    go_wp2
    go_ret2
    refine ⟨by first | rfl | (simp), ?_⟩
    repeat' (first | (with_reducible exact Below.refl _ _) | (with_reducible assumption) | (with_reducible refine Below.alloc ?_ ?_ _) | (with_reducible refine Below.drew ?_) | (with_reducible refine bdrewN ?_ _) | (with_reducible refine Below.setCell ?_ ?_ _) | (with_reducible refine bthen ?_ (by assumption) ?_) | go_size)
end Go.Proofs.Ytkjakgemjhbfoaa
