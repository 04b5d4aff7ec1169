/-
  Draws of fractions: nothing but the source turns.
-/
import Derived.Test.YtlmmpeeacjbobaaDrw
import Derived.Test.YtlmmpeeacjbobaaFrac
import Derived.Deep.RegionWith
namespace Go.Proofs.Ytlmmpeeacjbobaa
open Go.RowKit

theorem src_set2 {w : World} {g m b : Nat} (h : Src w g m) (hb : g < b) (u v : Value) : Src ((w.setCell ⟨b, 0, none⟩ u).setCell ⟨b, 1, none⟩ v) g m :=
  h.far (by simp) (fun x hx => by
    have hx' : x ≠ b := by omega
    rw [Below.heap_setCell _ ⟨b, 1, none⟩ _ x hx', Below.heap_setCell _ ⟨b, 0, none⟩ _ x hx'])
theorem src_set1 {w : World} {g m b : Nat} (h : Src w g m) (hb : g < b) (i : Nat) (u : Value) : Src (w.setCell ⟨b, i, none⟩ u) g m :=
  h.far (by simp) (fun x hx => by
    have hx' : x ≠ b := by omega
    rw [Below.heap_setCell _ ⟨b, i, none⟩ _ x hx'])
theorem grown_behind {a b c : World} {g : Nat} {r : Option Nat} (h : a.grownBy b (some g)) (k : b.grownBy c r) (hr : ∀ n, r = some n → a.heap.size ≤ n) : a.grownBy c (some g) :=
  ⟨k.os.trans h.os, k.tape.trans h.tape, k.output.trans h.output, Nat.le_trans h.size k.size, fun b hb hne => by
    have h1 := h.block b hb hne
    have h2 := k.block b (Nat.lt_of_lt_of_le hb h.size) (fun e => by have := hr b e.symm; omega)
    rw [h2, h1]⟩
theorem grown_set2b {w w1 : World} {g b : Nat} (h : w.grownBy w1 (some g)) (hb : w.heap.size ≤ b) (u v : Value) : w.grownBy ((w1.setCell ⟨b, 0, none⟩ u).setCell ⟨b, 1, none⟩ v) (some g) :=
  grown_behind h (grown_set2 w1 b 0 1 u v) (fun n e => by injection e with e; omega)
theorem grown_set1b {w w1 : World} {g b : Nat} (h : w.grownBy w1 (some g)) (hb : w.heap.size ≤ b) (i : Nat) (u : Value) : w.grownBy (w1.setCell ⟨b, i, none⟩ u) (some g) :=
  grown_behind h (r := some b) ⟨rfl, rfl, rfl, by simp, fun x hx hne => Below.heap_setCell _ _ _ _ (fun e => hne (by rw [e]))⟩ (fun n e => by injection e with e; omega)
theorem grown_alloc {w w1 : World} {g : Nat} (h : w.grownBy w1 (some g)) (o : Obj) : w.grownBy (w1.alloc o) (some g) := grown_tr h (World.grownBy_alloc w1 _ _)
theorem grown_below_tr {w w1 w2 : World} {g : Nat} (h : w.grownBy w1 (some g)) (k : Below w1.heap.size w1 w2) : w.grownBy w2 (some g) := grown_tr h (below_grown k _)
/-- A fraction came back; nothing that was there has turned. -/
def RetFr (w : World) (e : Ending) (w' : World) : Prop := ∃ n d : Int, e = .returned (.agg #[.int .i64 n, .int .i64 d]) ∧ Below w.heap.size w w'
/-- A draw returned a fraction. -/
def DrewF (w : World) (g m : Nat) (e : Ending) (w' : World) : Prop := ∃ n d : Int, e = .returned (.agg #[.int .i64 n, .int .i64 d]) ∧ Src w' g m ∧ w.grownBy w' (some g)
/-- A draw returned two fractions. -/
def DrewFF (w : World) (g m : Nat) (e : Ending) (w' : World) : Prop := ∃ n d n' d' : Int, e = .returned (.tuple #[.agg #[.int .i64 n, .int .i64 d], .agg #[.int .i64 n', .int .i64 d']]) ∧ Src w' g m ∧ w.grownBy w' (some g)
set_option maxHeartbeats 1000000 in
theorem l02Make_any (n d : Int) (n1 : -9000000000000000000 ≤ n) (n2 : n ≤ 9000000000000000000) (d1 : 1 ≤ d) (d2 : d ≤ 9000000000000000000) (w : World) :
    Calls Try.prog 110 #[.int .i64 n, .int .i64 d] w (RetFr w) := by
  obtain ⟨D, rfl⟩ := Int.eq_ofNat_of_zero_le (show 0 ≤ d by omega)
  have hg : Nat.gcd n.natAbs D ≠ 0 := by
    have := Nat.gcd_pos_of_pos_right n.natAbs (show 0 < D by omega)
    omega
  have kS := fun w => l02Size_any n n1 n2 w
  have kG := fun w => l02Gcd_any n.natAbs D (by omega) (by omega) w
  generalize Nat.gcd n.natAbs D = G at *
  have hg' : (G : Int) ≠ 0 := by omega
  obtain ⟨q1, q2⟩ := div_between (b := (G : Int)) n1 n2
  obtain ⟨q3, q4⟩ := div_between (b := (G : Int)) (show -9000000000000000000 ≤ (D : Int) by omega) d2
  go_enter Try.func110, Try.ntmps110
  go_wp2_with fail
  apply Calls.mono
  · with_reducible exact kS _
  rintro _ w1 ⟨rfl, hb_w1⟩
  obtain ⟨hc_w1, hf_w1, hs_w1⟩ := bcell hb_w1
  try simp at hs_w1
  have hz_w1_w0 : w.heap.size < w1.heap.size := by omega
  have hy_w1_w0 : w.heap.size ≤ w1.heap.size := by omega
  have hx_w1_w0 : ∀ n : Nat, w.heap.size < w1.heap.size + n := by intro n; omega
  have hv_w1_w0 : ∀ n : Nat, w.heap.size ≤ w1.heap.size + n := by intro n; omega
  go_wp2_with fail
  apply Calls.mono
  · with_reducible exact kG _
  rintro _ w2 ⟨rfl, hb_w2⟩
  obtain ⟨hc_w2, hf_w2, hs_w2⟩ := bcell hb_w2
  try simp at hs_w2
  have hz_w2_w0 : w.heap.size < w2.heap.size := by omega
  have hy_w2_w0 : w.heap.size ≤ w2.heap.size := by omega
  have hx_w2_w0 : ∀ n : Nat, w.heap.size < w2.heap.size + n := by intro n; omega
  have hv_w2_w0 : ∀ n : Nat, w.heap.size ≤ w2.heap.size + n := by intro n; omega
  have hd1 := hb_w1
  have hd2 := hb_w2
  go_wp2_with fail
  go_region
  all_goals go_wp2
  all_goals refine bodyPost_ret (by simp [results, Try.results110, go_sem, *]; try rfl) rfl ?_
  all_goals refine ⟨_, _, rfl, ?_⟩
  all_goals (repeat' (first | (with_reducible exact Below.refl _ _) | (with_reducible assumption) | (with_reducible refine Below.alloc ?_ ?_ _) | (with_reducible refine Below.drew ?_) | (with_reducible refine bdrewN ?_ _) | (with_reducible refine Below.setCell ?_ ?_ _) | (with_reducible refine bthen ?_ (by assumption) ?_) | go_size))
set_option maxHeartbeats 1000000 in
theorem l02Draw_any (g m : Nat) (M : Int) (w : World) (h : Src w g m) (hm : m ≤ 700000) (m1 : 1 ≤ M) (m2 : M ≤ 20000) : Calls Try.prog 122 #[.pointer (some ⟨g, 0, none⟩), .int .i64 M] w (DrewF w g (m + 8)) := by
  have hg0 := h.lt'
  have S0 := h.alloc' (.cells #[.int .i64 0, .int .i64 0] 24)
  have G0 : w.grownBy (w.alloc (.cells #[.int .i64 0, .int .i64 0] 24)) (some g) := World.grownBy_alloc w _ _
  have B0 := Blk.new w 24 #[.int .i64 0, .int .i64 0]
  have hgb : some w.heap.size ≠ some g := fun e => by injection e with e; omega
  go_enter Try.func122, Try.ntmps122
  go_wp2_with fail
  apply Calls.mono
  · with_reducible exact pick_any g m _ _ S0 (by omega) (by omega) (by omega)
  rintro _ w1 ⟨b1, rfl, ⟨b10, b11⟩, s1, g1⟩
  have G1 := grown_tr G0 g1
  have B1 := B0.grown g1 hgb
  clear S0 G0 B0 g1
  go_wp2_with fail
  apply Calls.mono
  · with_reducible exact one_any g (m + 2) 2 _ s1 (by omega) (by omega) (by omega)
  rintro _ w2 ⟨o, rfl, s2, g2⟩
  have G2 := grown_tr G1 g2
  have B2 := B1.grown g2 hgb
  clear s1 G1 B1 g2
  cases o
  · go_wp2_with fail
    apply Calls.mono
    · with_reducible exact pick_any g (m + 4) _ _ s2 (by omega) (by omega) (by omega)
    rintro _ w4 ⟨b4, rfl, ⟨b40, b41⟩, s4, g4⟩
    have G4 := grown_tr G2 g4
    have B4 := B2.grown g4 hgb
    clear s2 G2 B2 g4
    go_wp2_with fail
    apply Calls.mono
    · with_reducible exact l02Make_any _ _ (by omega) (by omega) (by omega) (by omega) _
    rintro _ w5 ⟨n, d, rfl, hb5⟩
    have G5 := grown_below_tr G4 hb5
    have B5 := B4.below hb5 B4.lt
    have S5 := s4.below hb5
    have c0 := B5.cell 0
    have c1 := B5.cell 1
    have f0 := B5.frozen 0
    have f1 := B5.frozen 1
    have z5 := B5.lt
    have y5 := G5.size
    clear hb5 s4 B4 G4
    go_wp2
    refine bodyPost_ret (by simp [results, Try.results122, go_sem, *]; try rfl) rfl ?_
    exact ⟨n, d, rfl, (src_set2 S5 hg0 _ _).mono (by omega), grown_set2b G5 (Nat.le_refl _) _ _⟩
  · go_wp2_with fail
    apply Calls.mono
    · with_reducible exact pick_any g (m + 4) _ _ s2 (by omega) (by omega) (by omega)
    rintro _ w3 ⟨b3, rfl, ⟨b30, b31⟩, s3, g3⟩
    have G3 := grown_tr G2 g3
    have B3 := B2.grown g3 hgb
    clear s2 G2 B2 g3
    go_wp2_with fail
    apply Calls.mono
    · with_reducible exact pick_any g (m + 6) _ _ s3 (by omega) (by omega) (by omega)
    rintro _ w4 ⟨b4, rfl, ⟨b40, b41⟩, s4, g4⟩
    have G4 := grown_tr G3 g4
    have B4 := B3.grown g4 hgb
    clear s3 G3 B3 g4
    go_wp2_with fail
    apply Calls.mono
    · with_reducible exact l02Make_any _ _ (by omega) (by omega) (by omega) (by omega) _
    rintro _ w5 ⟨n, d, rfl, hb5⟩
    have G5 := grown_below_tr G4 hb5
    have B5 := B4.below hb5 B4.lt
    have S5 := s4.below hb5
    have c0 := B5.cell 0
    have c1 := B5.cell 1
    have f0 := B5.frozen 0
    have f1 := B5.frozen 1
    have z5 := B5.lt
    have y5 := G5.size
    clear hb5 s4 B4 G4
    go_wp2
    refine bodyPost_ret (by simp [results, Try.results122, go_sem, *]; try rfl) rfl ?_
    exact ⟨n, d, rfl, src_set2 S5 hg0 _ _, grown_set2b G5 (Nat.le_refl _) _ _⟩
set_option maxHeartbeats 2000000 in
theorem l02Bent_any (g m : Nat) (w : World) (h : Src w g m) (hm : m ≤ 600000) : Calls Try.prog 99 #[.pointer (some ⟨g, 0, none⟩)] w (DrewF w g (m + 20)) := by
  have hg0 := h.lt'
  have S0 := h.alloc' (.cells #[.int .i64 0, .int .i64 0] 24)
  have G0 : w.grownBy (w.alloc (.cells #[.int .i64 0, .int .i64 0] 24)) (some g) := World.grownBy_alloc w _ _
  have B0 := Blk.new w 24 #[.int .i64 0, .int .i64 0]
  have hgb : some w.heap.size ≠ some g := fun e => by injection e with e; omega
  go_enter Try.func99, Try.ntmps99
  go_wp2_with fail
  apply Calls.mono
  · with_reducible exact l02Draw_any g m 300 _ S0 (by omega) (by omega) (by omega)
  rintro _ w1 ⟨n, d, rfl, s1, g1⟩
  have G1 := grown_tr G0 g1
  have B1 := B0.grown g1 hgb
  have z1 := G1.size
  have zR := B1.lt
  have S1 := s1.alloc' (.cells #[.int .i64 n, .int .i64 d] 24)
  have G1' := grown_alloc G1 (.cells #[.int .i64 n, .int .i64 d] 24)
  have B1' := B1.alloc (.cells #[.int .i64 n, .int .i64 d] 24)
  have C1 := Blk.new w1 24 #[.int .i64 n, .int .i64 d]
  have hgc : some w1.heap.size ≠ some g := fun e => by injection e with e; omega
  have hne : w.heap.size ≠ w1.heap.size := by omega
  have hne' : w1.heap.size ≠ w.heap.size := by omega
  have hgF : g < w1.heap.size := by omega
  clear S0 G0 B0 g1 s1 G1 B1
  go_wp2_with fail
  apply Calls.mono
  · with_reducible exact pick_any g (m + 8) 20 _ S1 (by omega) (by omega) (by omega)
  rintro _ w2 ⟨b, rfl, ⟨b0, b1⟩, s2, g2⟩
  have G2 := grown_tr G1' g2
  have B2 := B1'.grown g2 hgb
  have C2 := C1.grown g2 hgc
  clear S1 G1' B1' C1 g2
  by_cases h0 : b = 0
  · subst h0
    have hL := World.ownsRow_lit (base := 0) (e := 2) (size := 1) w2 #[.int .i64 (-1000000001), .int .i64 (-1000000000), .int .i64 1000000000, .int .i64 1000000001, .int .i64 (-9223372036854775808)] 5 (Nat.zero_le _) (by simp [maxLen]) (by simp)
    have kA := among_any g (m + 10) _ 5 [-1000000001, -1000000000, 1000000000, 1000000001, -9223372036854775808] _ (s2.alloc' _) (by omega) (Rs.of_own hL) (fun e => by have e : some g = some w2.heap.size := e; injection e with e; have := s2.lt'; omega) (by omega) (by omega)
    have B2' := B2.alloc (.cells #[.int .i64 (-1000000001), .int .i64 (-1000000000), .int .i64 1000000000, .int .i64 1000000001, .int .i64 (-9223372036854775808)] 2)
    have C2' := C2.alloc (.cells #[.int .i64 (-1000000001), .int .i64 (-1000000000), .int .i64 1000000000, .int .i64 1000000001, .int .i64 (-9223372036854775808)] 2)
    have G2' := grown_alloc G2 (.cells #[.int .i64 (-1000000001), .int .i64 (-1000000000), .int .i64 1000000000, .int .i64 1000000001, .int .i64 (-9223372036854775808)] 2)
    clear hL B2 C2 G2
    go_wp2_with fail
    apply Calls.mono
    · with_reducible exact kA
    rintro _ w3 ⟨z, rfl, hz, s3, g3⟩
    have G3 := grown_tr G2' g3
    have B3 := B2'.grown g3 hgb
    have C3 := C2'.grown g3 hgc
    clear hz kA B2' C2' G2' g3 s2
    have c0w3 := B3.cell 0
    have fc0w3 := B3.frozen 0
    have c1w3 := B3.cell 1
    have fc1w3 := B3.frozen 1
    have zcw3 := B3.lt
    have d0w3 := C3.cell 0
    have fd0w3 := C3.frozen 0
    have d1w3 := C3.cell 1
    have fd1w3 := C3.frozen 1
    have zdw3 := C3.lt
    clear B3 C3
    go_wp2
    refine bodyPost_ret (by simp [results, Try.results99, go_sem, *]; try rfl) rfl ?_
    exact ⟨_, _, rfl, (src_set2 (src_set1 s3 hgF _ _) hg0 _ _).mono (by omega), grown_set2b (grown_set1b G3 z1 _ _) (Nat.le_refl _) _ _⟩
  have e0 : (b == 0) = false := by simp [h0]
  by_cases h1 : b = 1
  · subst h1
    have hL := World.ownsRow_lit (base := 0) (e := 2) (size := 1) w2 #[.int .i64 (-1), .int .i64 0, .int .i64 1, .int .i64 1000000000, .int .i64 1000000001, .int .i64 9223372036854775807] 6 (Nat.zero_le _) (by simp [maxLen]) (by simp)
    have kA := among_any g (m + 10) _ 6 [-1, 0, 1, 1000000000, 1000000001, 9223372036854775807] _ (s2.alloc' _) (by omega) (Rs.of_own hL) (fun e => by have e : some g = some w2.heap.size := e; injection e with e; have := s2.lt'; omega) (by omega) (by omega)
    have B2' := B2.alloc (.cells #[.int .i64 (-1), .int .i64 0, .int .i64 1, .int .i64 1000000000, .int .i64 1000000001, .int .i64 9223372036854775807] 2)
    have C2' := C2.alloc (.cells #[.int .i64 (-1), .int .i64 0, .int .i64 1, .int .i64 1000000000, .int .i64 1000000001, .int .i64 9223372036854775807] 2)
    have G2' := grown_alloc G2 (.cells #[.int .i64 (-1), .int .i64 0, .int .i64 1, .int .i64 1000000000, .int .i64 1000000001, .int .i64 9223372036854775807] 2)
    clear hL B2 C2 G2
    go_wp2_with fail
    apply Calls.mono
    · with_reducible exact kA
    rintro _ w3 ⟨z, rfl, hz, s3, g3⟩
    have G3 := grown_tr G2' g3
    have B3 := B2'.grown g3 hgb
    have C3 := C2'.grown g3 hgc
    clear hz kA B2' C2' G2' g3 s2
    have c0w3 := B3.cell 0
    have fc0w3 := B3.frozen 0
    have c1w3 := B3.cell 1
    have fc1w3 := B3.frozen 1
    have zcw3 := B3.lt
    have d0w3 := C3.cell 0
    have fd0w3 := C3.frozen 0
    have d1w3 := C3.cell 1
    have fd1w3 := C3.frozen 1
    have zdw3 := C3.lt
    clear B3 C3
    go_wp2
    refine bodyPost_ret (by simp [results, Try.results99, go_sem, *]; try rfl) rfl ?_
    exact ⟨_, _, rfl, (src_set2 (src_set1 s3 hgF _ _) hg0 _ _).mono (by omega), grown_set2b (grown_set1b G3 z1 _ _) (Nat.le_refl _) _ _⟩
  have e1 : (b == 1) = false := by simp [h1]
  by_cases h2 : b = 2
  · subst h2
    have c0w2 := B2.cell 0
    have fc0w2 := B2.frozen 0
    have c1w2 := B2.cell 1
    have fc1w2 := B2.frozen 1
    have zcw2 := B2.lt
    have d0w2 := C2.cell 0
    have fd0w2 := C2.frozen 0
    have d1w2 := C2.cell 1
    have fd1w2 := C2.frozen 1
    have zdw2 := C2.lt
    clear B2 C2
    go_wp2
    refine bodyPost_ret (by simp [results, Try.results99, go_sem, *]; try rfl) rfl ?_
    exact ⟨_, _, rfl, (src_set2 s2 hg0 _ _).mono (by omega), grown_set2b G2 (Nat.le_refl _) _ _⟩
  have e2 : (b == 2) = false := by simp [h2]
  by_cases h3 : b = 3
  · subst h3
    go_wp2_with fail
    apply Calls.mono
    · with_reducible exact pick_any g (m + 10) 5 _ s2 (by omega) (by omega) (by omega)
    rintro _ w3 ⟨x, rfl, ⟨x0, x1⟩, s3, g3⟩
    have G3 := grown_tr G2 g3
    have B3 := B2.grown g3 hgb
    have C3 := C2.grown g3 hgc
    clear B2 C2 G2 g3 s2
    go_wp2_with fail
    apply Calls.mono
    · with_reducible exact pick_any g (m + 12) 5 _ s3 (by omega) (by omega) (by omega)
    rintro _ w4 ⟨y, rfl, ⟨y0, y1⟩, s4, g4⟩
    have G4 := grown_tr G3 g4
    have B4 := B3.grown g4 hgb
    have C4 := C3.grown g4 hgc
    clear B3 C3 G3 g4 s3
    go_wp2_with fail
    apply Calls.mono
    · with_reducible exact l02Make_any _ _ (by omega) (by omega) (by omega) (by omega) _
    rintro _ w5 ⟨n5, d5, rfl, hb5⟩
    have G5 := grown_below_tr G4 hb5
    have B5 := B4.below hb5 B4.lt
    have C5 := C4.below hb5 C4.lt
    have S5 := s4.below hb5
    clear B4 C4 G4 hb5 s4
    have c0w5 := B5.cell 0
    have fc0w5 := B5.frozen 0
    have c1w5 := B5.cell 1
    have fc1w5 := B5.frozen 1
    have zcw5 := B5.lt
    have d0w5 := C5.cell 0
    have fd0w5 := C5.frozen 0
    have d1w5 := C5.cell 1
    have fd1w5 := C5.frozen 1
    have zdw5 := C5.lt
    clear B5 C5
    go_wp2
    refine bodyPost_ret (by simp [results, Try.results99, go_sem, *]; try rfl) rfl ?_
    exact ⟨_, _, rfl, (src_set2 (src_set2 S5 hgF _ _) hg0 _ _).mono (by omega), grown_set2b (grown_set2b G5 z1 _ _) (Nat.le_refl _) _ _⟩
  have e3 : (b == 3) = false := by simp [h3]
  have c0w2 := B2.cell 0
  have fc0w2 := B2.frozen 0
  have c1w2 := B2.cell 1
  have fc1w2 := B2.frozen 1
  have zcw2 := B2.lt
  have d0w2 := C2.cell 0
  have fd0w2 := C2.frozen 0
  have d1w2 := C2.cell 1
  have fd1w2 := C2.frozen 1
  have zdw2 := C2.lt
  clear B2 C2
  go_wp2
  refine bodyPost_ret (by simp [results, Try.results99, go_sem, *]; try rfl) rfl ?_
  exact ⟨_, _, rfl, (src_set2 s2 hg0 _ _).mono (by omega), grown_set2b G2 (Nat.le_refl _) _ _⟩
set_option maxHeartbeats 2000000 in
theorem l02Both_any (g m : Nat) (w : World) (h : Src w g m) (hm : m ≤ 500000) : Calls Try.prog 100 #[.pointer (some ⟨g, 0, none⟩)] w (DrewFF w g (m + 42)) := by
  have hg0 := h.lt'
  have S0 := (h.alloc' (.cells #[.int .i64 0, .int .i64 0] 24)).alloc' (.cells #[.int .i64 0, .int .i64 0] 24)
  have G0 : w.grownBy ((w.alloc (.cells #[.int .i64 0, .int .i64 0] 24)).alloc (.cells #[.int .i64 0, .int .i64 0] 24)) (some g) := grown_tr (World.grownBy_alloc w _ _) (World.grownBy_alloc _ _ _)
  have B0 := (Blk.new w 24 #[.int .i64 0, .int .i64 0]).alloc (.cells #[.int .i64 0, .int .i64 0] 24)
  have B0' : Blk ((w.alloc (.cells #[.int .i64 0, .int .i64 0] 24)).alloc (.cells #[.int .i64 0, .int .i64 0] 24)) (w.heap.size + 1) 24 #[.int .i64 0, .int .i64 0] := by
    have := Blk.new (w.alloc (.cells #[.int .i64 0, .int .i64 0] 24)) 24 #[.int .i64 0, .int .i64 0]
    rwa [World.size_alloc] at this
  have hgb : some w.heap.size ≠ some g := fun e => by injection e with e; omega
  have hgb' : some (w.heap.size + 1) ≠ some g := fun e => by injection e with e; omega
  go_enter Try.func100, Try.ntmps100
  go_wp2_with fail
  apply Calls.mono
  · with_reducible exact l02Bent_any g m _ S0 (by omega)
  rintro _ w1 ⟨n, d, rfl, s1, g1⟩
  have G1 := grown_tr G0 g1
  have B1 := B0.grown g1 hgb
  have B1' := B0'.grown g1 hgb'
  have z1 := G1.size
  have zR := B1'.lt
  have S1 := s1.alloc' (.cells #[.int .i64 n, .int .i64 d] 24)
  have G1a := grown_alloc G1 (.cells #[.int .i64 n, .int .i64 d] 24)
  have B1a := B1.alloc (.cells #[.int .i64 n, .int .i64 d] 24)
  have B1b := B1'.alloc (.cells #[.int .i64 n, .int .i64 d] 24)
  have C1 := Blk.new w1 24 #[.int .i64 n, .int .i64 d]
  have hgc : some w1.heap.size ≠ some g := fun e => by injection e with e; omega
  clear S0 G0 B0 B0' g1 s1 G1 B1 B1'
  go_wp2_with fail
  apply Calls.mono
  · with_reducible exact one_any g (m + 20) 12 _ S1 (by omega) (by omega) (by omega)
  rintro _ w2 ⟨o, rfl, s2, g2⟩
  have G2 := grown_tr G1a g2
  have B2 := B1a.grown g2 hgb
  have B2' := B1b.grown g2 hgb'
  have C2 := C1.grown g2 hgc
  clear S1 G1a B1a B1b C1 g2
  have c0 := B2.cell 0
  have c1 := B2.cell 1
  have f0 := B2.frozen 0
  have f1 := B2.frozen 1
  have c2 := B2'.cell 0
  have c3 := B2'.cell 1
  have f2 := B2'.frozen 0
  have f3 := B2'.frozen 1
  have d0 := C2.cell 0
  have d1 := C2.cell 1
  have x1 := B2.lt
  have x2 := B2'.lt
  have x3 := C2.lt
  have hne1 : w.heap.size ≠ w1.heap.size := by omega
  have hne2 : w1.heap.size ≠ w.heap.size := by omega
  have hne3 : w.heap.size + 1 ≠ w1.heap.size := by omega
  have hne4 : w1.heap.size ≠ w.heap.size + 1 := by omega
  cases o
  · have kB : ∀ wx, Below w2.heap.size w2 wx → Calls Try.prog 99 #[.pointer (some ⟨g, 0, none⟩)] wx (fun e w3 => ∃ n' d' : Int, e = .returned (.agg #[.int .i64 n', .int .i64 d']) ∧ Src w3 g (m + 42) ∧ w.grownBy w3 (some g) ∧
        (w3.cell? ⟨w.heap.size, 0, none⟩ = some (.int .i64 0) ∧ w3.cell? ⟨w.heap.size, 1, none⟩ = some (.int .i64 0) ∧ w3.cell? ⟨w.heap.size + 1, 0, none⟩ = some (.int .i64 0) ∧ w3.cell? ⟨w.heap.size + 1, 1, none⟩ = some (.int .i64 0) ∧ w3.cell? ⟨w1.heap.size, 0, none⟩ = some (.int .i64 n) ∧ w3.cell? ⟨w1.heap.size, 1, none⟩ = some (.int .i64 d)) ∧
        (w3.frozen? ⟨w.heap.size, 0, none⟩ = false ∧ w3.frozen? ⟨w.heap.size, 1, none⟩ = false ∧ w3.frozen? ⟨w.heap.size + 1, 0, none⟩ = false ∧ w3.frozen? ⟨w.heap.size + 1, 1, none⟩ = false) ∧ w.heap.size < w3.heap.size ∧ w.heap.size + 1 < w3.heap.size ∧ w1.heap.size < w3.heap.size) := by
      intro wx hx
      refine (l02Bent_any g (m + 22) wx (s2.below hx) (by omega)).mono ?_
      rintro _ w3 ⟨n', d', rfl, s3, g3⟩
      have D := (B2.below hx B2.lt).grown g3 hgb
      have D' := (B2'.below hx B2'.lt).grown g3 hgb'
      have E := (C2.below hx C2.lt).grown g3 hgc
      exact ⟨n', d', rfl, s3, grown_tr (grown_below_tr G2 hx) g3, ⟨D.cell 0, D.cell 1, D'.cell 0, D'.cell 1, E.cell 0, E.cell 1⟩, ⟨D.frozen 0, D.frozen 1, D'.frozen 0, D'.frozen 1⟩, D.lt, D'.lt, E.lt⟩
    clear s2 G2 B2 B2' C2
    go_wp2_with fail
    go_region_with (go_at_call 99; refine (kB _ ?_).mono ?_; (first | exact Below.refl _ _ | exact (Below.refl _ _).drew); rintro _ w3 ⟨n', d', rfl, s3, g3, ⟨u0, u1, u2, u3, u4, u5⟩, ⟨v0, v1, v2, v3⟩, y0, y1, y2⟩)
    all_goals go_wp2
    all_goals refine bodyPost_ret (by simp [results, Try.results100, go_sem, *]; try rfl) rfl ?_
    all_goals first | exact ⟨_, _, _, _, rfl, src_set2 (src_set2 s3 (by omega) _ _) (by omega) _ _, grown_set2b (grown_set2b g3 (by omega) _ _) (by omega) _ _⟩ | skip
  · have S3 := s2
    go_wp2_with fail
    go_region
    all_goals go_wp2
    all_goals refine bodyPost_ret (by simp [results, Try.results100, go_sem, *]; try rfl) rfl ?_
    all_goals first | exact ⟨_, _, _, _, rfl, (src_set2 (src_set2 (S3.below (Below.refl _ _).drew) (by omega) _ _) (by omega) _ _).mono (by omega), grown_set2b (grown_set2b (grown_below_tr G2 (Below.refl _ _).drew) (by omega) _ _) (by omega) _ _⟩ | skip
set_option maxHeartbeats 2000000 in
theorem l06Draw_any (g m : Nat) (w : World) (h : Src w g m) (hm : m ≤ 500000) : Calls Try.prog 119 #[.pointer (some ⟨g, 0, none⟩)] w (DrewF w g (m + 30)) := by
  have hg0 := h.lt'
  have S0 := h.alloc' (.cells #[.int .i64 0, .int .i64 0] 24)
  have G0 : w.grownBy (w.alloc (.cells #[.int .i64 0, .int .i64 0] 24)) (some g) := World.grownBy_alloc w _ _
  have B0 := Blk.new w 24 #[.int .i64 0, .int .i64 0]
  have hgb : some w.heap.size ≠ some g := fun e => by injection e with e; omega
  go_enter Try.func119, Try.ntmps119
  go_wp2_with fail
  apply Calls.mono
  · with_reducible exact one_any g m 10 _ S0 (by omega) (by omega) (by omega)
  rintro _ w1 ⟨o, rfl, s1, g1⟩
  have G1 := grown_tr G0 g1
  have B1 := B0.grown g1 hgb
  clear S0 G0 B0 g1
  cases o
  · go_wp2_with fail
    apply Calls.mono
    · with_reducible exact pick_any g (m + 2) 40 _ s1 (by omega) (by omega) (by omega)
    rintro _ w2 ⟨b, rfl, ⟨b0, b1⟩, s2, g2⟩
    have G2 := grown_tr G1 g2
    have B2 := B1.grown g2 hgb
    clear s1 G1 B1 g2
    go_wp2_with fail
    apply Calls.mono
    · with_reducible exact one_any g (m + 4) 6 _ s2 (by omega) (by omega) (by omega)
    rintro _ w3 ⟨o3, rfl, s3, g3⟩
    have G3 := grown_tr G2 g3
    have B3 := B2.grown g3 hgb
    clear s2 G2 B2 g3
    cases o3
    · go_wp2_with fail
      apply Calls.mono
      · with_reducible exact pick_any g (m + 6) _ _ s3 (by omega) (by omega) (by omega)
      rintro _ w4 ⟨x, rfl, ⟨x0, x1⟩, s4, g4⟩
      have G4 := grown_tr G3 g4
      have B4 := B3.grown g4 hgb
      clear s3 G3 B3 g4
      go_wp2_with fail
      apply Calls.mono
      · with_reducible exact l02Make_any _ _ (by omega) (by omega) (by omega) (by omega) _
      rintro _ w5 ⟨n, d, rfl, hb5⟩
      have G5 := grown_below_tr G4 hb5
      have B5 := B4.below hb5 B4.lt
      have S5 := s4.below hb5
      have c0 := B5.cell 0
      have c1 := B5.cell 1
      have f0 := B5.frozen 0
      have f1 := B5.frozen 1
      have z5 := B5.lt
      clear hb5 s4 B4 G4
      go_wp2
      refine bodyPost_ret (by simp [results, Try.results119, go_sem, *]; try rfl) rfl ?_
      exact ⟨n, d, rfl, (src_set2 S5 hg0 _ _).mono (by omega), grown_set2b G5 (Nat.le_refl _) _ _⟩
    · go_wp2_with fail
      apply Calls.mono
      · with_reducible exact pick_any g (m + 6) 1000 _ s3 (by omega) (by omega) (by omega)
      rintro _ w3' ⟨b', rfl, ⟨b0', b1'⟩, s3', g3'⟩
      have G3' := grown_tr G3 g3'
      have B3' := B3.grown g3' hgb
      clear s3 G3 B3 g3'
      go_wp2_with fail
      apply Calls.mono
      · with_reducible exact pick_any g (m + 8) _ _ s3' (by omega) (by omega) (by omega)
      rintro _ w4 ⟨x, rfl, ⟨x0, x1⟩, s4, g4⟩
      have G4 := grown_tr G3' g4
      have B4 := B3'.grown g4 hgb
      clear s3' G3' B3' g4
      go_wp2_with fail
      apply Calls.mono
      · with_reducible exact l02Make_any _ _ (by omega) (by omega) (by omega) (by omega) _
      rintro _ w5 ⟨n, d, rfl, hb5⟩
      have G5 := grown_below_tr G4 hb5
      have B5 := B4.below hb5 B4.lt
      have S5 := s4.below hb5
      have c0 := B5.cell 0
      have c1 := B5.cell 1
      have f0 := B5.frozen 0
      have f1 := B5.frozen 1
      have z5 := B5.lt
      clear hb5 s4 B4 G4
      go_wp2
      refine bodyPost_ret (by simp [results, Try.results119, go_sem, *]; try rfl) rfl ?_
      exact ⟨n, d, rfl, (src_set2 S5 hg0 _ _).mono (by omega), grown_set2b G5 (Nat.le_refl _) _ _⟩
  · go_wp2_with fail
    apply Calls.mono
    · with_reducible exact l02Bent_any g (m + 2) _ s1 (by omega)
    rintro _ w5 ⟨n, d, rfl, s5, g5⟩
    have G5 := grown_tr G1 g5
    have B5 := B1.grown g5 hgb
    have c0 := B5.cell 0
    have c1 := B5.cell 1
    have f0 := B5.frozen 0
    have f1 := B5.frozen 1
    have z5 := B5.lt
    clear s1 B1 G1 g5
    go_wp2
    refine bodyPost_ret (by simp [results, Try.results119, go_sem, *]; try rfl) rfl ?_
    exact ⟨n, d, rfl, (src_set2 s5 hg0 _ _).mono (by omega), grown_set2b G5 (Nat.le_refl _) _ _⟩
/-- Drawn numbers came back: a number and a fraction. -/
def AskP (w : World) (e : Ending) (w' : World) : Prop := ∃ o n d : Int, e = .returned (.tuple #[.int .i64 o, .agg #[.int .i64 n, .int .i64 d]]) ∧ Below w.heap.size w w'
set_option maxHeartbeats 1000000 in
theorem l06Ask_any (A : Option Addr) (n c : Nat) (w : World) (hn : n ≤ 100000) (hr : ByteRd w w.heap.size A n) : Calls Try.prog 87 #[.slice A n c] w (AskP w) := by
  have hr0 : ByteRd (w.alloc (.cells #[.int .i64 0, .int .i64 0] 24)) (w.alloc (.cells #[.int .i64 0, .int .i64 0] 24)).heap.size A n := hr.below ((Below.refl _ _).alloc (Nat.le_refl _) _)
  have B0 := Blk.new w 24 #[.int .i64 0, .int .i64 0]
  have V0 : Below w.heap.size w (w.alloc (.cells #[.int .i64 0, .int .i64 0] 24)) := (Below.refl _ _).alloc (Nat.le_refl _) _
  go_enter Try.func87, Try.ntmps87
  go_wp2_with fail
  apply Calls.mono
  · with_reducible exact from_any A n c _ hn hr0
  rintro _ w1 ⟨g, rfl, s1, b1, hg⟩
  have B1 := B0.below b1 B0.lt
  have V1 := bthen V0 b1 V0.size
  have hg' : w.heap.size < g := Nat.lt_of_lt_of_le B0.lt hg
  have hgb : some w.heap.size ≠ some g := fun e => by injection e with e; omega
  clear hr hr0 B0 V0 b1
  go_wp2_with fail
  apply Calls.mono
  · with_reducible exact drawOrder_any g 0 _ s1 (by omega)
  rintro _ w2 ⟨o, rfl, -, s2, g2⟩
  have B2 := B1.grown g2 hgb
  have V2 := bthen V1 (grown_base (B := w.heap.size) (by omega) V1.size g2) (Nat.le_refl _)
  clear B1 V1 g2 s1
  go_wp2_with fail
  apply Calls.mono
  · with_reducible exact one_any g 4 12 _ s2 (by omega) (by omega) (by omega)
  rintro _ w3 ⟨t, rfl, s3, g3⟩
  have B3 := B2.grown g3 hgb
  have V3 := bthen V2 (grown_base (B := w.heap.size) (by omega) V2.size g3) (Nat.le_refl _)
  clear B2 V2 g3 s2
  cases t
  · go_wp2_with fail
    apply Calls.mono
    · with_reducible exact l06Draw_any g 6 _ s3 (by omega)
    rintro _ w5 ⟨n, d, rfl, s5, g5⟩
    have B5 := B3.grown g5 hgb
    have V5 := bthen V3 (grown_base (B := w.heap.size) (by omega) V3.size g5) (Nat.le_refl _)
    have c0 := B5.cell 0
    have c1 := B5.cell 1
    have f0 := B5.frozen 0
    have f1 := B5.frozen 1
    have z5 := B5.lt
    clear B3 V3 g5 s3
    go_wp2
    refine bodyPost_ret (by simp [results, Try.results87, go_sem, *]; try rfl) rfl ?_
    refine ⟨_, _, _, rfl, ?_⟩
    repeat' (first | (with_reducible exact Below.refl _ _) | (with_reducible assumption) | (with_reducible refine Below.alloc ?_ ?_ _) | (with_reducible refine Below.drew ?_) | (with_reducible refine bdrewN ?_ _) | (with_reducible refine Below.setCell ?_ ?_ _) | (with_reducible refine bthen ?_ (by assumption) ?_) | go_size)
  · have hL := World.ownsRow_lit (base := 0) (e := 2) (size := 1) w3 #[.int .i64 1000, .int .i64 10000] 2 (Nat.zero_le _) (by simp [maxLen]) (by simp)
    have kA := among_any g 6 _ 2 [1000, 10000] _ (s3.alloc' _) (by omega) (Rs.of_own hL) (fun e => by have e : some g = some w3.heap.size := e; injection e with e; have := s3.lt'; omega) (by omega) (by omega)
    have B3' := B3.alloc (.cells #[.int .i64 1000, .int .i64 10000] 2)
    have V3' := V3.alloc V3.size (.cells #[.int .i64 1000, .int .i64 10000] 2)
    clear hL B3 V3
    go_wp2_with fail
    apply Calls.mono
    · with_reducible exact kA
    rintro _ w4 ⟨z, rfl, hz, s4, g4⟩
    have B4 := B3'.grown g4 hgb
    have V4 := bthen V3' (grown_base (B := w.heap.size) (by omega) V3'.size g4) (Nat.le_refl _)
    clear kA B3' V3' g4 s3 hz
    go_wp2_with fail
    apply Calls.mono
    · with_reducible exact l06Draw_any g 8 _ s4 (by omega)
    rintro _ w5 ⟨n, d, rfl, s5, g5⟩
    have B5 := B4.grown g5 hgb
    have V5 := bthen V4 (grown_base (B := w.heap.size) (by omega) V4.size g5) (Nat.le_refl _)
    have c0 := B5.cell 0
    have c1 := B5.cell 1
    have f0 := B5.frozen 0
    have f1 := B5.frozen 1
    have z5 := B5.lt
    clear B4 V4 g5 s4
    go_wp2
    refine bodyPost_ret (by simp [results, Try.results87, go_sem, *]; try rfl) rfl ?_
    refine ⟨_, _, _, rfl, ?_⟩
    repeat' (first | (with_reducible exact Below.refl _ _) | (with_reducible assumption) | (with_reducible refine Below.alloc ?_ ?_ _) | (with_reducible refine Below.drew ?_) | (with_reducible refine bdrewN ?_ _) | (with_reducible refine Below.setCell ?_ ?_ _) | (with_reducible refine bthen ?_ (by assumption) ?_) | go_size)
end Go.Proofs.Ytlmmpeeacjbobaa
