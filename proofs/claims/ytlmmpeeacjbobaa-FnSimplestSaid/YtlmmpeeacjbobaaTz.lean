/-
  Children of fractions: both packages' walks. Printed by mkch.py and mkchs.py.
-/
import Derived.Test.YtlmmpeeacjbobaaTw
namespace Go.Proofs.Ytlmmpeeacjbobaa
open Go.RowKit
set_option linter.unusedSimpArgs false

theorem plain_low {n d : Int} (hg : Int.gcd n d = 1) (hd : 1 ≤ d) : plain n d = if okF n d then (n, d, 0) else (0, 0, 5) := by
  have e1 : plN n d = n := by unfold plN; rw [if_neg (by omega), hg]; simp
  have e2 : plD n d = d := by unfold plD; rw [if_neg (by omega), hg]; simp
  unfold plain
  rw [e1, e2]
/-- What a fraction's bounds say of its children. -/
theorem child_bn {n d : Int} (h : posC n d = 0) : (n = (bnP (ptP n d)).1 + (bnR (ptP n d)).1 ∧ d = (bnP (ptP n d)).2 + (bnR (ptP n d)).2) ∧
    (okF (n + (bnP (ptP n d)).1) (d + (bnP (ptP n d)).2) = true → paM (n + (bnP (ptP n d)).1) (d + (bnP (ptP n d)).2) = (n, d, 0)) ∧
    (okF (n + (bnR (ptP n d)).1) (d + (bnR (ptP n d)).2) = true → paM (n + (bnR (ptP n d)).1) (d + (bnR (ptP n d)).2) = (n, d, 0)) ∧
    (Int.gcd (n + (bnP (ptP n d)).1) (d + (bnP (ptP n d)).2) = 1 ∧ Int.gcd (n + (bnR (ptP n d)).1) (d + (bnR (ptP n d)).2) = 1) ∧
    (0 ≤ (bnP (ptP n d)).1 ∧ 0 ≤ (bnP (ptP n d)).2 ∧ 0 ≤ (bnR (ptP n d)).1 ∧ 0 ≤ (bnR (ptP n d)).2) := by
  obtain ⟨c1, c2, c3, c4, c5, c6, z1, z2, z3, z4⟩ := child_parent h
  unfold bnP bnR
  split
  · exact ⟨⟨by omega, by omega⟩, c4, c3, ⟨c6, c5⟩, z3, z4, z1, z2⟩
  · exact ⟨⟨c1, c2⟩, c3, c4, ⟨c5, c6⟩, z1, z2, z3, z4⟩
/-- The children and the code. -/
def chM (n d : Int) : (Int × Int) × (Int × Int) × Int :=
  if posC n d = 0 then
    (if okF (n + (bnP (ptP n d)).1) (d + (bnP (ptP n d)).2) && okF (n + (bnR (ptP n d)).1) (d + (bnR (ptP n d)).2) then ((n + (bnP (ptP n d)).1, d + (bnP (ptP n d)).2), (n + (bnR (ptP n d)).1, d + (bnR (ptP n d)).2), 0) else ((0, 0), (0, 0), 5))
  else ((0, 0), (0, 0), posC n d)
theorem cells_four (w : World) (t : TypeId) (a b c d : Array Value) : Blk ((((w.alloc (.cells a t)).alloc (.cells b t)).alloc (.cells c t)).alloc (.cells d t)) w.heap.size t a ∧
    Blk ((((w.alloc (.cells a t)).alloc (.cells b t)).alloc (.cells c t)).alloc (.cells d t)) (w.heap.size + 1) t b ∧ Blk ((((w.alloc (.cells a t)).alloc (.cells b t)).alloc (.cells c t)).alloc (.cells d t)) (w.heap.size + 1 + 1) t c ∧
    Blk ((((w.alloc (.cells a t)).alloc (.cells b t)).alloc (.cells c t)).alloc (.cells d t)) (w.heap.size + 1 + 1 + 1) t d := by
  refine ⟨(((Blk.new w t a).alloc _).alloc _).alloc _, ((blk_at1' w t b _).alloc _).alloc _, ?_, ?_⟩
  · have := (blk_at2' w t c (.cells a t) (.cells b t)).alloc (.cells d t)
    exact this
  · have h := Blk.new (((w.alloc (.cells a t)).alloc (.cells b t)).alloc (.cells c t)) t d
    rw [World.size_alloc, World.size_alloc, World.size_alloc] at h
    exact h
set_option maxHeartbeats 4000000 in
set_option maxRecDepth 100000 in
theorem childrenI_any (n d : Int) (w : World) : Calls Try.prog 20 #[.agg #[.int .i64 n, .int .i64 d]] w (Ret w (.tuple #[.agg #[.int .i64 (chM n d).1.1, .int .i64 (chM n d).1.2], .agg #[.int .i64 (chM n d).2.1.1, .int .i64 (chM n d).2.1.2], .int .i64 (chM n d).2.2])) := by
  obtain ⟨r, hr⟩ : ∃ r, posC n d = r := ⟨_, rfl⟩
  have H := Lib.hid (posC_one (fun _ => n) (fun _ => d) 1 rfl hr)
  obtain ⟨q0, q1, q2, q3⟩ := cells_four w 24 #[.int .i64 n, .int .i64 d] #[.int .i64 0, .int .i64 0] #[.int .i64 0, .int .i64 0] #[.int .i64 n, .int .i64 d]
  have q30 : ∀ j : Nat, j < 1 → ((((w.alloc (.cells #[.int .i64 n, .int .i64 d] 24)).alloc (.cells #[.int .i64 0, .int .i64 0] 24)).alloc (.cells #[.int .i64 0, .int .i64 0] 24)).alloc (.cells #[.int .i64 n, .int .i64 d] 24)).cell? ⟨w.heap.size + 1 + 1 + 1, j * 2, none⟩ = some (.int .i64 n) ∧
      ((((w.alloc (.cells #[.int .i64 n, .int .i64 d] 24)).alloc (.cells #[.int .i64 0, .int .i64 0] 24)).alloc (.cells #[.int .i64 0, .int .i64 0] 24)).alloc (.cells #[.int .i64 n, .int .i64 d] 24)).cell? ⟨w.heap.size + 1 + 1 + 1, j * 2 + 1, none⟩ = some (.int .i64 d) := by
    intro j hj
    obtain rfl : j = 0 := by omega
    exact ⟨q3.cell 0, q3.cell 1⟩
  have Q30 := Lib.hid q30
  clear q30
  have bel0 : Below w.heap.size w ((((w.alloc (.cells #[.int .i64 n, .int .i64 d] 24)).alloc (.cells #[.int .i64 0, .int .i64 0] 24)).alloc (.cells #[.int .i64 0, .int .i64 0] 24)).alloc (.cells #[.int .i64 n, .int .i64 d] 24)) := ((((Below.refl _ _).alloc (Nat.le_refl _) _).alloc (by rw [World.size_alloc]; omega) _).alloc (by rw [World.size_alloc, World.size_alloc]; omega) _).alloc (by rw [World.size_alloc, World.size_alloc, World.size_alloc]; omega) _
  by_cases h0 : r = 0
  · subst h0
    obtain ⟨hok, ⟨n1, n2⟩, d1, d2⟩ := pos_facts hr
    obtain ⟨i, l, hL, E⟩ := ex_all n1 n2 d1 d2
    have kP := fun w => pathTo_any n d n1 n2 d1 d2 i l hL E w
    have hS := sm_path hr
    obtain ⟨⟨e1, e2⟩, _, _, ⟨g1, g2⟩, z1, z2, z3, z4⟩ := child_bn hr
    have hM : chM n d = if okF (n + (bnP (ptP n d)).1) (d + (bnP (ptP n d)).2) && okF (n + (bnR (ptP n d)).1) (d + (bnR (ptP n d)).2) then ((n + (bnP (ptP n d)).1, d + (bnP (ptP n d)).2), (n + (bnR (ptP n d)).1, d + (bnR (ptP n d)).2), 0) else ((0, 0), (0, 0), 5) := by unfold chM; rw [if_pos hr]
    rw [pt_of hr hL] at hS e1 e2 g1 g2 z1 z2 z3 z4 hM
    rw [hM]
    generalize pthL i l = s at *
    have kB := fun v w h => bounds_any v s.length s w h hS
    generalize bnP s = P at *
    generalize bnR s = R at *
    obtain ⟨p1, p2⟩ := P
    obtain ⟨r1, r2⟩ := R
    simp only at e1 e2 g1 g2 z1 z2 z3 z4
    have kL := fun w => plainOf_any (n + p1) (d + p2) (by omega) (by omega) (by omega) (by omega) (by omega) w
    have kR := fun w => plainOf_any (n + r1) (d + r2) (by omega) (by omega) (by omega) (by omega) (by omega) w
    rw [plain_low g1 (by omega)] at kL
    rw [plain_low g2 (by omega)] at kR
    have c1 : p1 + n = n + p1 := by omega
    have c2 : p2 + d = d + p2 := by omega
    have c3 : r1 + n = n + r1 := by omega
    have c4 : r2 + d = d + r2 := by omega
    simp only at kB
    generalize hX1 : n + p1 = X1 at *
    generalize hX2 : d + p2 = X2 at *
    generalize hY1 : n + r1 = Y1 at *
    generalize hY2 : d + r2 = Y2 at *
    have x1 : -9000000000000000000 ≤ X1 ∧ X1 ≤ 9000000000000000000 := by omega
    have x2 : -9000000000000000000 ≤ X2 ∧ X2 ≤ 9000000000000000000 := by omega
    have y1 : -9000000000000000000 ≤ Y1 ∧ Y1 ≤ 9000000000000000000 := by omega
    have y2 : -9000000000000000000 ≤ Y2 ∧ Y2 ≤ 9000000000000000000 := by omega
    clear hr hL E hok hS e1 e2 g1 g2 z1 z2 z3 z4 hM hX1 hX2 hY1 hY2
    obtain ⟨bl, hbl⟩ : ∃ b, okF X1 X2 = b := ⟨_, rfl⟩
    obtain ⟨br, hbr⟩ : ∃ b, okF Y1 Y2 = b := ⟨_, rfl⟩
    rw [hbl] at kL
    rw [hbr] at kR
    rw [hbl, hbr]
    clear hbl hbr
    cases bl
    · cases br
      · simp only [Bool.false_eq_true, if_false, if_true, Bool.false_and, Bool.true_and, Bool.and_false, Bool.and_true, Bool.and_self] at kL kR ⊢
        go_enter Try.func20, Try.ntmps20
        go_wp2_with fail
        apply Calls.mono
        · with_reducible exact checkPositive_any 1 1 _ (fun _ => n) (fun _ => d) (by omega) (by omega) (by omega) _ (by simp) Q30.out 0 H.out
        rintro _ w1 ⟨rfl, hb1⟩
        have A1 := q0.below hb1 q0.lt
        have B1 := q1.below hb1 q1.lt
        have C1 := q2.below hb1 q2.lt
        have V1 := bthen bel0 hb1 bel0.size
        have a1 := A1.cell 0
        have a2 := A1.cell 1
        have zA := A1.lt
        clear q0 q1 q2 q3 bel0 hb1
        go_wp2_with fail
        apply Calls.mono
        · with_reducible exact kP _
        rintro _ w2 ⟨v2, rfl, ho2, hb2⟩
        have A2 := A1.below hb2 A1.lt
        have B2 := B1.below hb2 B1.lt
        have C2 := C1.below hb2 C1.lt
        have V2 := bthen V1 hb2 V1.size
        clear A1 B1 C1 V1 a1 a2 zA hb2 kP
        go_wp2_with fail
        apply Calls.mono
        · with_reducible exact kB _ _ (Rd.of_own ho2)
        rintro _ w3 ⟨rfl, hb3⟩
        have A3 := A2.below hb3 A2.lt
        have B3 := B2.below hb3 B2.lt
        have C3 := C2.below hb3 C2.lt
        have V3 := bthen V2 hb3 V2.size
        have a1 := A3.cell 0
        have a2 := A3.cell 1
        have zA := A3.lt
        clear A2 B2 C2 V2 hb3 kB ho2
        go_wp2_with fail
        apply Calls.mono
        · with_reducible exact kL _
        rintro _ w4 ⟨rfl, hb4⟩
        have A4 := (A3.below hb4 A3.lt).alloc (.cells #[.int .i64 0, .int .i64 0] 24)
        have B4 := (B3.below hb4 B3.lt).alloc (.cells #[.int .i64 0, .int .i64 0] 24)
        have C4 := (C3.below hb4 C3.lt).alloc (.cells #[.int .i64 0, .int .i64 0] 24)
        have D4 := Blk.new w4 24 #[.int .i64 0, .int .i64 0]
        have V4' := bthen V3 hb4 V3.size
        have V4 := V4'.alloc V4'.size (.cells #[.int .i64 0, .int .i64 0] 24)
        have h4 := hb4.size
        have n1 : w4.heap.size ≠ w.heap.size + 1 := by have := B3.lt; omega
        have n2 : w4.heap.size ≠ w.heap.size + 1 + 1 := by have := C3.lt; omega
        clear A3 B3 C3 V3 hb4 kL a1 a2 zA V4'
        have a1 := A4.cell 0
        have a2 := A4.cell 1
        have zA := A4.lt
        go_wp2_with fail
        apply Calls.mono
        · with_reducible exact kR _
        rintro _ w5 ⟨rfl, hb5⟩
        have B5 := (B4.below hb5 B4.lt).alloc (.cells #[.int .i64 0, .int .i64 0] 24)
        have C5 := (C4.below hb5 C4.lt).alloc (.cells #[.int .i64 0, .int .i64 0] 24)
        have D5 := (D4.below hb5 D4.lt).alloc (.cells #[.int .i64 0, .int .i64 0] 24)
        have E5 := Blk.new w5 24 #[.int .i64 0, .int .i64 0]
        have V5' := bthen V4 hb5 V4.size
        have V5 := V5'.alloc V5'.size (.cells #[.int .i64 0, .int .i64 0] 24)
        have n3 : w5.heap.size ≠ w.heap.size + 1 := by have := (B4.below hb5 B4.lt).lt; omega
        have n4 : w5.heap.size ≠ w.heap.size + 1 + 1 := by have := (C4.below hb5 C4.lt).lt; omega
        have n5 := n1.symm
        have n6 := n2.symm
        have n7 := n3.symm
        have n8 := n4.symm
        have b1 := B5.cell 0
        have b2 := B5.cell 1
        have b3 := B5.frozen 0
        have b4 := B5.frozen 1
        have b5 := B5.lt
        have b6 := C5.cell 0
        have b7 := C5.cell 1
        have b8 := C5.frozen 0
        have b9 := C5.frozen 1
        have c0 := C5.lt
        have e0 := D5.cell 0
        have e1 := D5.cell 1
        have e2 := D5.lt
        have e3 := E5.cell 0
        have e4 := E5.cell 1
        have e5 := E5.lt
        clear A4 B4 C4 D4 V4 hb5 kR a1 a2 zA V5' B5 C5 D5 E5
        go_wp2
        refine bodyPost_ret (by simp [results, Try.results20, go_sem, *]; try rfl) rfl ?_
        refine ⟨by first | rfl | simp, ?_⟩
        repeat' (first | (with_reducible exact Below.refl _ _) | (with_reducible assumption) | (with_reducible refine Below.alloc ?_ ?_ _) | (with_reducible refine Below.drew ?_) | (with_reducible refine bdrewN ?_ _) | (with_reducible refine Below.setCell ?_ ?_ _) | (with_reducible refine bthen ?_ (by assumption) ?_) | go_size)
      · simp only [Bool.false_eq_true, if_false, if_true, Bool.false_and, Bool.true_and, Bool.and_false, Bool.and_true, Bool.and_self] at kL kR ⊢
        go_enter Try.func20, Try.ntmps20
        go_wp2_with fail
        apply Calls.mono
        · with_reducible exact checkPositive_any 1 1 _ (fun _ => n) (fun _ => d) (by omega) (by omega) (by omega) _ (by simp) Q30.out 0 H.out
        rintro _ w1 ⟨rfl, hb1⟩
        have A1 := q0.below hb1 q0.lt
        have B1 := q1.below hb1 q1.lt
        have C1 := q2.below hb1 q2.lt
        have V1 := bthen bel0 hb1 bel0.size
        have a1 := A1.cell 0
        have a2 := A1.cell 1
        have zA := A1.lt
        clear q0 q1 q2 q3 bel0 hb1
        go_wp2_with fail
        apply Calls.mono
        · with_reducible exact kP _
        rintro _ w2 ⟨v2, rfl, ho2, hb2⟩
        have A2 := A1.below hb2 A1.lt
        have B2 := B1.below hb2 B1.lt
        have C2 := C1.below hb2 C1.lt
        have V2 := bthen V1 hb2 V1.size
        clear A1 B1 C1 V1 a1 a2 zA hb2 kP
        go_wp2_with fail
        apply Calls.mono
        · with_reducible exact kB _ _ (Rd.of_own ho2)
        rintro _ w3 ⟨rfl, hb3⟩
        have A3 := A2.below hb3 A2.lt
        have B3 := B2.below hb3 B2.lt
        have C3 := C2.below hb3 C2.lt
        have V3 := bthen V2 hb3 V2.size
        have a1 := A3.cell 0
        have a2 := A3.cell 1
        have zA := A3.lt
        clear A2 B2 C2 V2 hb3 kB ho2
        go_wp2_with fail
        apply Calls.mono
        · with_reducible exact kL _
        rintro _ w4 ⟨rfl, hb4⟩
        have A4 := (A3.below hb4 A3.lt).alloc (.cells #[.int .i64 0, .int .i64 0] 24)
        have B4 := (B3.below hb4 B3.lt).alloc (.cells #[.int .i64 0, .int .i64 0] 24)
        have C4 := (C3.below hb4 C3.lt).alloc (.cells #[.int .i64 0, .int .i64 0] 24)
        have D4 := Blk.new w4 24 #[.int .i64 0, .int .i64 0]
        have V4' := bthen V3 hb4 V3.size
        have V4 := V4'.alloc V4'.size (.cells #[.int .i64 0, .int .i64 0] 24)
        have h4 := hb4.size
        have n1 : w4.heap.size ≠ w.heap.size + 1 := by have := B3.lt; omega
        have n2 : w4.heap.size ≠ w.heap.size + 1 + 1 := by have := C3.lt; omega
        clear A3 B3 C3 V3 hb4 kL a1 a2 zA V4'
        have a1 := A4.cell 0
        have a2 := A4.cell 1
        have zA := A4.lt
        go_wp2_with fail
        apply Calls.mono
        · with_reducible exact kR _
        rintro _ w5 ⟨rfl, hb5⟩
        have B5 := (B4.below hb5 B4.lt).alloc (.cells #[.int .i64 Y1, .int .i64 Y2] 24)
        have C5 := (C4.below hb5 C4.lt).alloc (.cells #[.int .i64 Y1, .int .i64 Y2] 24)
        have D5 := (D4.below hb5 D4.lt).alloc (.cells #[.int .i64 Y1, .int .i64 Y2] 24)
        have E5 := Blk.new w5 24 #[.int .i64 Y1, .int .i64 Y2]
        have V5' := bthen V4 hb5 V4.size
        have V5 := V5'.alloc V5'.size (.cells #[.int .i64 Y1, .int .i64 Y2] 24)
        have n3 : w5.heap.size ≠ w.heap.size + 1 := by have := (B4.below hb5 B4.lt).lt; omega
        have n4 : w5.heap.size ≠ w.heap.size + 1 + 1 := by have := (C4.below hb5 C4.lt).lt; omega
        have n5 := n1.symm
        have n6 := n2.symm
        have n7 := n3.symm
        have n8 := n4.symm
        have b1 := B5.cell 0
        have b2 := B5.cell 1
        have b3 := B5.frozen 0
        have b4 := B5.frozen 1
        have b5 := B5.lt
        have b6 := C5.cell 0
        have b7 := C5.cell 1
        have b8 := C5.frozen 0
        have b9 := C5.frozen 1
        have c0 := C5.lt
        have e0 := D5.cell 0
        have e1 := D5.cell 1
        have e2 := D5.lt
        have e3 := E5.cell 0
        have e4 := E5.cell 1
        have e5 := E5.lt
        clear A4 B4 C4 D4 V4 hb5 kR a1 a2 zA V5' B5 C5 D5 E5
        go_wp2
        refine bodyPost_ret (by simp [results, Try.results20, go_sem, *]; try rfl) rfl ?_
        refine ⟨by first | rfl | simp, ?_⟩
        repeat' (first | (with_reducible exact Below.refl _ _) | (with_reducible assumption) | (with_reducible refine Below.alloc ?_ ?_ _) | (with_reducible refine Below.drew ?_) | (with_reducible refine bdrewN ?_ _) | (with_reducible refine Below.setCell ?_ ?_ _) | (with_reducible refine bthen ?_ (by assumption) ?_) | go_size)
    · cases br
      · simp only [Bool.false_eq_true, if_false, if_true, Bool.false_and, Bool.true_and, Bool.and_false, Bool.and_true, Bool.and_self] at kL kR ⊢
        go_enter Try.func20, Try.ntmps20
        go_wp2_with fail
        apply Calls.mono
        · with_reducible exact checkPositive_any 1 1 _ (fun _ => n) (fun _ => d) (by omega) (by omega) (by omega) _ (by simp) Q30.out 0 H.out
        rintro _ w1 ⟨rfl, hb1⟩
        have A1 := q0.below hb1 q0.lt
        have B1 := q1.below hb1 q1.lt
        have C1 := q2.below hb1 q2.lt
        have V1 := bthen bel0 hb1 bel0.size
        have a1 := A1.cell 0
        have a2 := A1.cell 1
        have zA := A1.lt
        clear q0 q1 q2 q3 bel0 hb1
        go_wp2_with fail
        apply Calls.mono
        · with_reducible exact kP _
        rintro _ w2 ⟨v2, rfl, ho2, hb2⟩
        have A2 := A1.below hb2 A1.lt
        have B2 := B1.below hb2 B1.lt
        have C2 := C1.below hb2 C1.lt
        have V2 := bthen V1 hb2 V1.size
        clear A1 B1 C1 V1 a1 a2 zA hb2 kP
        go_wp2_with fail
        apply Calls.mono
        · with_reducible exact kB _ _ (Rd.of_own ho2)
        rintro _ w3 ⟨rfl, hb3⟩
        have A3 := A2.below hb3 A2.lt
        have B3 := B2.below hb3 B2.lt
        have C3 := C2.below hb3 C2.lt
        have V3 := bthen V2 hb3 V2.size
        have a1 := A3.cell 0
        have a2 := A3.cell 1
        have zA := A3.lt
        clear A2 B2 C2 V2 hb3 kB ho2
        go_wp2_with fail
        apply Calls.mono
        · with_reducible exact kL _
        rintro _ w4 ⟨rfl, hb4⟩
        have A4 := (A3.below hb4 A3.lt).alloc (.cells #[.int .i64 X1, .int .i64 X2] 24)
        have B4 := (B3.below hb4 B3.lt).alloc (.cells #[.int .i64 X1, .int .i64 X2] 24)
        have C4 := (C3.below hb4 C3.lt).alloc (.cells #[.int .i64 X1, .int .i64 X2] 24)
        have D4 := Blk.new w4 24 #[.int .i64 X1, .int .i64 X2]
        have V4' := bthen V3 hb4 V3.size
        have V4 := V4'.alloc V4'.size (.cells #[.int .i64 X1, .int .i64 X2] 24)
        have h4 := hb4.size
        have n1 : w4.heap.size ≠ w.heap.size + 1 := by have := B3.lt; omega
        have n2 : w4.heap.size ≠ w.heap.size + 1 + 1 := by have := C3.lt; omega
        clear A3 B3 C3 V3 hb4 kL a1 a2 zA V4'
        have a1 := A4.cell 0
        have a2 := A4.cell 1
        have zA := A4.lt
        go_wp2_with fail
        apply Calls.mono
        · with_reducible exact kR _
        rintro _ w5 ⟨rfl, hb5⟩
        have B5 := (B4.below hb5 B4.lt).alloc (.cells #[.int .i64 0, .int .i64 0] 24)
        have C5 := (C4.below hb5 C4.lt).alloc (.cells #[.int .i64 0, .int .i64 0] 24)
        have D5 := (D4.below hb5 D4.lt).alloc (.cells #[.int .i64 0, .int .i64 0] 24)
        have E5 := Blk.new w5 24 #[.int .i64 0, .int .i64 0]
        have V5' := bthen V4 hb5 V4.size
        have V5 := V5'.alloc V5'.size (.cells #[.int .i64 0, .int .i64 0] 24)
        have n3 : w5.heap.size ≠ w.heap.size + 1 := by have := (B4.below hb5 B4.lt).lt; omega
        have n4 : w5.heap.size ≠ w.heap.size + 1 + 1 := by have := (C4.below hb5 C4.lt).lt; omega
        have n5 := n1.symm
        have n6 := n2.symm
        have n7 := n3.symm
        have n8 := n4.symm
        have b1 := B5.cell 0
        have b2 := B5.cell 1
        have b3 := B5.frozen 0
        have b4 := B5.frozen 1
        have b5 := B5.lt
        have b6 := C5.cell 0
        have b7 := C5.cell 1
        have b8 := C5.frozen 0
        have b9 := C5.frozen 1
        have c0 := C5.lt
        have e0 := D5.cell 0
        have e1 := D5.cell 1
        have e2 := D5.lt
        have e3 := E5.cell 0
        have e4 := E5.cell 1
        have e5 := E5.lt
        clear A4 B4 C4 D4 V4 hb5 kR a1 a2 zA V5' B5 C5 D5 E5
        go_wp2
        refine bodyPost_ret (by simp [results, Try.results20, go_sem, *]; try rfl) rfl ?_
        refine ⟨by first | rfl | simp, ?_⟩
        repeat' (first | (with_reducible exact Below.refl _ _) | (with_reducible assumption) | (with_reducible refine Below.alloc ?_ ?_ _) | (with_reducible refine Below.drew ?_) | (with_reducible refine bdrewN ?_ _) | (with_reducible refine Below.setCell ?_ ?_ _) | (with_reducible refine bthen ?_ (by assumption) ?_) | go_size)
      · simp only [Bool.false_eq_true, if_false, if_true, Bool.false_and, Bool.true_and, Bool.and_false, Bool.and_true, Bool.and_self] at kL kR ⊢
        go_enter Try.func20, Try.ntmps20
        go_wp2_with fail
        apply Calls.mono
        · with_reducible exact checkPositive_any 1 1 _ (fun _ => n) (fun _ => d) (by omega) (by omega) (by omega) _ (by simp) Q30.out 0 H.out
        rintro _ w1 ⟨rfl, hb1⟩
        have A1 := q0.below hb1 q0.lt
        have B1 := q1.below hb1 q1.lt
        have C1 := q2.below hb1 q2.lt
        have V1 := bthen bel0 hb1 bel0.size
        have a1 := A1.cell 0
        have a2 := A1.cell 1
        have zA := A1.lt
        clear q0 q1 q2 q3 bel0 hb1
        go_wp2_with fail
        apply Calls.mono
        · with_reducible exact kP _
        rintro _ w2 ⟨v2, rfl, ho2, hb2⟩
        have A2 := A1.below hb2 A1.lt
        have B2 := B1.below hb2 B1.lt
        have C2 := C1.below hb2 C1.lt
        have V2 := bthen V1 hb2 V1.size
        clear A1 B1 C1 V1 a1 a2 zA hb2 kP
        go_wp2_with fail
        apply Calls.mono
        · with_reducible exact kB _ _ (Rd.of_own ho2)
        rintro _ w3 ⟨rfl, hb3⟩
        have A3 := A2.below hb3 A2.lt
        have B3 := B2.below hb3 B2.lt
        have C3 := C2.below hb3 C2.lt
        have V3 := bthen V2 hb3 V2.size
        have a1 := A3.cell 0
        have a2 := A3.cell 1
        have zA := A3.lt
        clear A2 B2 C2 V2 hb3 kB ho2
        go_wp2_with fail
        apply Calls.mono
        · with_reducible exact kL _
        rintro _ w4 ⟨rfl, hb4⟩
        have A4 := (A3.below hb4 A3.lt).alloc (.cells #[.int .i64 X1, .int .i64 X2] 24)
        have B4 := (B3.below hb4 B3.lt).alloc (.cells #[.int .i64 X1, .int .i64 X2] 24)
        have C4 := (C3.below hb4 C3.lt).alloc (.cells #[.int .i64 X1, .int .i64 X2] 24)
        have D4 := Blk.new w4 24 #[.int .i64 X1, .int .i64 X2]
        have V4' := bthen V3 hb4 V3.size
        have V4 := V4'.alloc V4'.size (.cells #[.int .i64 X1, .int .i64 X2] 24)
        have h4 := hb4.size
        have n1 : w4.heap.size ≠ w.heap.size + 1 := by have := B3.lt; omega
        have n2 : w4.heap.size ≠ w.heap.size + 1 + 1 := by have := C3.lt; omega
        clear A3 B3 C3 V3 hb4 kL a1 a2 zA V4'
        have a1 := A4.cell 0
        have a2 := A4.cell 1
        have zA := A4.lt
        go_wp2_with fail
        apply Calls.mono
        · with_reducible exact kR _
        rintro _ w5 ⟨rfl, hb5⟩
        have B5 := (B4.below hb5 B4.lt).alloc (.cells #[.int .i64 Y1, .int .i64 Y2] 24)
        have C5 := (C4.below hb5 C4.lt).alloc (.cells #[.int .i64 Y1, .int .i64 Y2] 24)
        have D5 := (D4.below hb5 D4.lt).alloc (.cells #[.int .i64 Y1, .int .i64 Y2] 24)
        have E5 := Blk.new w5 24 #[.int .i64 Y1, .int .i64 Y2]
        have V5' := bthen V4 hb5 V4.size
        have V5 := V5'.alloc V5'.size (.cells #[.int .i64 Y1, .int .i64 Y2] 24)
        have n3 : w5.heap.size ≠ w.heap.size + 1 := by have := (B4.below hb5 B4.lt).lt; omega
        have n4 : w5.heap.size ≠ w.heap.size + 1 + 1 := by have := (C4.below hb5 C4.lt).lt; omega
        have n5 := n1.symm
        have n6 := n2.symm
        have n7 := n3.symm
        have n8 := n4.symm
        have b1 := B5.cell 0
        have b2 := B5.cell 1
        have b3 := B5.frozen 0
        have b4 := B5.frozen 1
        have b5 := B5.lt
        have b6 := C5.cell 0
        have b7 := C5.cell 1
        have b8 := C5.frozen 0
        have b9 := C5.frozen 1
        have c0 := C5.lt
        have e0 := D5.cell 0
        have e1 := D5.cell 1
        have e2 := D5.lt
        have e3 := E5.cell 0
        have e4 := E5.cell 1
        have e5 := E5.lt
        clear A4 B4 C4 D4 V4 hb5 kR a1 a2 zA V5' B5 C5 D5 E5
        go_wp2_with fail
        go_region
        all_goals go_wp2
        all_goals
          refine bodyPost_ret (by simp [results, Try.results20, go_sem, *]; try rfl) rfl ?_
          refine ⟨by first | rfl | simp, ?_⟩
          repeat' (first | (with_reducible exact Below.refl _ _) | (with_reducible assumption) | (with_reducible refine Below.alloc ?_ ?_ _) | (with_reducible refine Below.drew ?_) | (with_reducible refine bdrewN ?_ _) | (with_reducible refine Below.setCell ?_ ?_ _) | (with_reducible refine bthen ?_ (by assumption) ?_) | go_size)
  · have hM : chM n d = ((0, 0), (0, 0), r) := by unfold chM; rw [if_neg (by rw [hr]; exact h0), hr]
    rw [hM]
    have hne : (r != 0) = true := by simp [h0]
    clear hr h0 hM
    go_enter Try.func20, Try.ntmps20
    go_wp2_with fail
    apply Calls.mono
    · with_reducible exact checkPositive_any 1 1 _ (fun _ => n) (fun _ => d) (by omega) (by omega) (by omega) _ (by simp) Q30.out r H.out
    rintro _ w1 ⟨rfl, hb1⟩
    have B1 := q1.below hb1 q1.lt
    have C1 := q2.below hb1 q2.lt
    have V1 := bthen bel0 hb1 bel0.size
    have b1 := B1.cell 0
    have b2 := B1.cell 1
    have b3 := B1.frozen 0
    have b4 := B1.frozen 1
    have b5 := B1.lt
    have c1 := C1.cell 0
    have c2 := C1.cell 1
    have c3 := C1.frozen 0
    have c4 := C1.frozen 1
    have c5 := C1.lt
    clear q0 q1 q2 q3 B1 C1 bel0 hb1
    go_wp2
    refine bodyPost_ret (by simp [results, Try.results20, go_sem, *]; try rfl) rfl ?_
    refine ⟨by first | rfl | simp, ?_⟩
    repeat' (first | (with_reducible exact Below.refl _ _) | (with_reducible assumption) | (with_reducible refine Below.alloc ?_ ?_ _) | (with_reducible refine Below.drew ?_) | (with_reducible refine bdrewN ?_ _) | (with_reducible refine Below.setCell ?_ ?_ _) | (with_reducible refine bthen ?_ (by assumption) ?_) | go_size)
theorem cells_three (w : World) (t : TypeId) (a b c : Array Value) : Blk (((w.alloc (.cells a t)).alloc (.cells b t)).alloc (.cells c t)) w.heap.size t a ∧
    Blk (((w.alloc (.cells a t)).alloc (.cells b t)).alloc (.cells c t)) (w.heap.size + 1) t b ∧ Blk (((w.alloc (.cells a t)).alloc (.cells b t)).alloc (.cells c t)) (w.heap.size + 1 + 1) t c :=
  ⟨((Blk.new w t a).alloc _).alloc _, (blk_at1' w t b _).alloc _, blk_at2' w t c _ _⟩
set_option maxHeartbeats 4000000 in
set_option maxRecDepth 100000 in
theorem childrenS_any (n d : Int) (w : World) : Calls Try.prog 21 #[.agg #[.int .i64 n, .int .i64 d]] w (Ret w (.tuple #[.agg #[.int .i64 (chM n d).1.1, .int .i64 (chM n d).1.2], .agg #[.int .i64 (chM n d).2.1.1, .int .i64 (chM n d).2.1.2], .int .i64 (chM n d).2.2])) := by
  obtain ⟨r, hr⟩ : ∃ r, posC n d = r := ⟨_, rfl⟩
  have H := Lib.hid hr
  obtain ⟨q0, q1, q2⟩ := cells_three w 24 #[.int .i64 n, .int .i64 d] #[.int .i64 0, .int .i64 0] #[.int .i64 0, .int .i64 0]
  have bel0 : Below w.heap.size w (((w.alloc (.cells #[.int .i64 n, .int .i64 d] 24)).alloc (.cells #[.int .i64 0, .int .i64 0] 24)).alloc (.cells #[.int .i64 0, .int .i64 0] 24)) := (((Below.refl _ _).alloc (Nat.le_refl _) _).alloc (by rw [World.size_alloc]; omega) _).alloc (by rw [World.size_alloc, World.size_alloc]; omega) _
  by_cases h0 : r = 0
  · subst h0
    obtain ⟨hok, ⟨n1, n2⟩, d1, d2⟩ := pos_facts hr
    obtain ⟨i, l, hL, E⟩ := ex_all n1 n2 d1 d2
    have kP := fun w => l05Path_any n d n1 n2 d1 d2 i l hL E w
    have hS := sm_path hr
    obtain ⟨⟨e1, e2⟩, _, _, ⟨g1, g2⟩, z1, z2, z3, z4⟩ := child_bn hr
    have hM : chM n d = if okF (n + (bnP (ptP n d)).1) (d + (bnP (ptP n d)).2) && okF (n + (bnR (ptP n d)).1) (d + (bnR (ptP n d)).2) then ((n + (bnP (ptP n d)).1, d + (bnP (ptP n d)).2), (n + (bnR (ptP n d)).1, d + (bnR (ptP n d)).2), 0) else ((0, 0), (0, 0), 5) := by unfold chM; rw [if_pos hr]
    rw [pt_of hr hL] at hS e1 e2 g1 g2 z1 z2 z3 z4 hM
    rw [hM]
    generalize pthL i l = s at *
    have kB := fun v w h => l05Bounds_any v s.length s w h hS
    generalize bnP s = P at *
    generalize bnR s = R at *
    obtain ⟨p1, p2⟩ := P
    obtain ⟨r1, r2⟩ := R
    simp only at e1 e2 g1 g2 z1 z2 z3 z4 kB
    obtain ⟨bl, hbl⟩ : ∃ b, okF (n + p1) (d + p2) = b := ⟨_, rfl⟩
    obtain ⟨br, hbr⟩ : ∃ b, okF (n + r1) (d + r2) = b := ⟨_, rfl⟩
    have kL := fun w => l02Ok_any (n + p1) (d + p2) bl hbl w
    have kR := fun w => l02Ok_any (n + r1) (d + r2) br hbr w
    simp only [hbl, hbr]
    have c1 : n + p1 ≤ 2000000000 := by omega
    have c2 : d + p2 ≤ 2000000000 := by omega
    have c3 : n + r1 ≤ 2000000000 := by omega
    have c4 : d + r2 ≤ 2000000000 := by omega
    clear hr hL E hok hS e1 e2 g1 g2 hM hbl hbr
    cases bl
    · simp only [Bool.false_eq_true, if_false, Bool.false_and]
      go_enter Try.func21, Try.ntmps21
      go_wp2_with fail
      apply Calls.mono
      · with_reducible exact l05Code_any _ _ 0 H.out _
      rintro _ w1 ⟨rfl, hb1⟩
      have A1 := q0.below hb1 q0.lt
      have B1 := q1.below hb1 q1.lt
      have C1 := q2.below hb1 q2.lt
      have V1 := bthen bel0 hb1 bel0.size
      have a1 := A1.cell 0
      have a2 := A1.cell 1
      have zA := A1.lt
      clear q0 q1 q2 bel0 hb1
      go_wp2_with fail
      apply Calls.mono
      · with_reducible exact kP _
      rintro _ w2 ⟨v2, rfl, ho2, hb2⟩
      have A2 := A1.below hb2 A1.lt
      have B2 := B1.below hb2 B1.lt
      have C2 := C1.below hb2 C1.lt
      have V2 := bthen V1 hb2 V1.size
      clear A1 B1 C1 V1 a1 a2 zA hb2 kP
      go_wp2_with fail
      apply Calls.mono
      · with_reducible exact kB _ _ (Rd.of_own ho2)
      rintro _ w3 ⟨rfl, hb3⟩
      have A3 := A2.below hb3 A2.lt
      have B3 := B2.below hb3 B2.lt
      have C3 := C2.below hb3 C2.lt
      have V3 := bthen V2 hb3 V2.size
      have a1 := A3.cell 0
      have a2 := A3.cell 1
      have zA := A3.lt
      have B4 := ((B3.alloc (.cells #[.int .i64 p1, .int .i64 p2, .int .i64 r1, .int .i64 r2] 77)).alloc (.cells #[.int .i64 (n + p1), .int .i64 (d + p2)] 24)).alloc (.cells #[.int .i64 (n + r1), .int .i64 (d + r2)] 24)
      have C4 := ((C3.alloc (.cells #[.int .i64 p1, .int .i64 p2, .int .i64 r1, .int .i64 r2] 77)).alloc (.cells #[.int .i64 (n + p1), .int .i64 (d + p2)] 24)).alloc (.cells #[.int .i64 (n + r1), .int .i64 (d + r2)] 24)
      have D4 := (blk_at1' w3 24 #[.int .i64 (n + p1), .int .i64 (d + p2)] (.cells #[.int .i64 p1, .int .i64 p2, .int .i64 r1, .int .i64 r2] 77)).alloc (.cells #[.int .i64 (n + r1), .int .i64 (d + r2)] 24)
      have E4 := blk_at2' w3 24 #[.int .i64 (n + r1), .int .i64 (d + r2)] (.cells #[.int .i64 p1, .int .i64 p2, .int .i64 r1, .int .i64 r2] 77) (.cells #[.int .i64 (n + p1), .int .i64 (d + p2)] 24)
      have V4 := ((V3.alloc V3.size (.cells #[.int .i64 p1, .int .i64 p2, .int .i64 r1, .int .i64 r2] 77)).alloc (by rw [World.size_alloc]; have := V3.size; omega) (.cells #[.int .i64 (n + p1), .int .i64 (d + p2)] 24)).alloc (by rw [World.size_alloc, World.size_alloc]; have := V3.size; omega) (.cells #[.int .i64 (n + r1), .int .i64 (d + r2)] 24)
      have n1 : w3.heap.size + 1 ≠ w.heap.size + 1 := by have := B3.lt; omega
      have n2 : w3.heap.size + 1 ≠ w.heap.size + 1 + 1 := by have := C3.lt; omega
      have n3 : w3.heap.size + 1 + 1 ≠ w.heap.size + 1 := by have := B3.lt; omega
      have n4 : w3.heap.size + 1 + 1 ≠ w.heap.size + 1 + 1 := by have := C3.lt; omega
      have n9 : w3.heap.size ≠ w.heap.size := by omega
      have n10 : w.heap.size ≠ w3.heap.size := by omega
      have n5 := n1.symm
      have n6 := n2.symm
      have n7 := n3.symm
      have n8 := n4.symm
      clear A2 B2 C2 V2 hb3 kB ho2 B3 C3 V3
      go_wp2_with fail
      apply Calls.mono
      · with_reducible exact kL _
      rintro _ w4 ⟨rfl, hb4⟩
      have B5 := B4.below hb4 B4.lt
      have C5 := C4.below hb4 C4.lt
      have D5 := D4.below hb4 D4.lt
      have E5 := E4.below hb4 E4.lt
      have V5 := bthen V4 hb4 V4.size
      clear B4 C4 D4 E4 V4 hb4 kL a1 a2 zA A3
      have x1 := E5.cell 0
      have x2 := E5.cell 1
      have x3 := E5.lt
      have b1 := B5.cell 0
      have b2 := B5.cell 1
      have b3 := B5.frozen 0
      have b4 := B5.frozen 1
      have b5 := B5.lt
      have b6 := C5.cell 0
      have b7 := C5.cell 1
      have b8 := C5.frozen 0
      have b9 := C5.frozen 1
      have c0 := C5.lt
      have e0 := D5.cell 0
      have e1 := D5.cell 1
      have e2 := D5.lt
      clear B5 C5 D5 E5 kR
      go_wp2
      refine bodyPost_ret (by simp [results, Try.results21, go_sem, *]; try rfl) rfl ?_
      refine ⟨by first | rfl | simp, ?_⟩
      repeat' (first | (with_reducible exact Below.refl _ _) | (with_reducible assumption) | (with_reducible refine Below.alloc ?_ ?_ _) | (with_reducible refine Below.drew ?_) | (with_reducible refine bdrewN ?_ _) | (with_reducible refine Below.setCell ?_ ?_ _) | (with_reducible refine bthen ?_ (by assumption) ?_) | go_size)
    · cases br
      · simp only [Bool.false_eq_true, if_false, if_true, Bool.and_false, Bool.and_self]
        go_enter Try.func21, Try.ntmps21
        go_wp2_with fail
        apply Calls.mono
        · with_reducible exact l05Code_any _ _ 0 H.out _
        rintro _ w1 ⟨rfl, hb1⟩
        have A1 := q0.below hb1 q0.lt
        have B1 := q1.below hb1 q1.lt
        have C1 := q2.below hb1 q2.lt
        have V1 := bthen bel0 hb1 bel0.size
        have a1 := A1.cell 0
        have a2 := A1.cell 1
        have zA := A1.lt
        clear q0 q1 q2 bel0 hb1
        go_wp2_with fail
        apply Calls.mono
        · with_reducible exact kP _
        rintro _ w2 ⟨v2, rfl, ho2, hb2⟩
        have A2 := A1.below hb2 A1.lt
        have B2 := B1.below hb2 B1.lt
        have C2 := C1.below hb2 C1.lt
        have V2 := bthen V1 hb2 V1.size
        clear A1 B1 C1 V1 a1 a2 zA hb2 kP
        go_wp2_with fail
        apply Calls.mono
        · with_reducible exact kB _ _ (Rd.of_own ho2)
        rintro _ w3 ⟨rfl, hb3⟩
        have A3 := A2.below hb3 A2.lt
        have B3 := B2.below hb3 B2.lt
        have C3 := C2.below hb3 C2.lt
        have V3 := bthen V2 hb3 V2.size
        have a1 := A3.cell 0
        have a2 := A3.cell 1
        have zA := A3.lt
        have B4 := ((B3.alloc (.cells #[.int .i64 p1, .int .i64 p2, .int .i64 r1, .int .i64 r2] 77)).alloc (.cells #[.int .i64 (n + p1), .int .i64 (d + p2)] 24)).alloc (.cells #[.int .i64 (n + r1), .int .i64 (d + r2)] 24)
        have C4 := ((C3.alloc (.cells #[.int .i64 p1, .int .i64 p2, .int .i64 r1, .int .i64 r2] 77)).alloc (.cells #[.int .i64 (n + p1), .int .i64 (d + p2)] 24)).alloc (.cells #[.int .i64 (n + r1), .int .i64 (d + r2)] 24)
        have D4 := (blk_at1' w3 24 #[.int .i64 (n + p1), .int .i64 (d + p2)] (.cells #[.int .i64 p1, .int .i64 p2, .int .i64 r1, .int .i64 r2] 77)).alloc (.cells #[.int .i64 (n + r1), .int .i64 (d + r2)] 24)
        have E4 := blk_at2' w3 24 #[.int .i64 (n + r1), .int .i64 (d + r2)] (.cells #[.int .i64 p1, .int .i64 p2, .int .i64 r1, .int .i64 r2] 77) (.cells #[.int .i64 (n + p1), .int .i64 (d + p2)] 24)
        have V4 := ((V3.alloc V3.size (.cells #[.int .i64 p1, .int .i64 p2, .int .i64 r1, .int .i64 r2] 77)).alloc (by rw [World.size_alloc]; have := V3.size; omega) (.cells #[.int .i64 (n + p1), .int .i64 (d + p2)] 24)).alloc (by rw [World.size_alloc, World.size_alloc]; have := V3.size; omega) (.cells #[.int .i64 (n + r1), .int .i64 (d + r2)] 24)
        have n1 : w3.heap.size + 1 ≠ w.heap.size + 1 := by have := B3.lt; omega
        have n2 : w3.heap.size + 1 ≠ w.heap.size + 1 + 1 := by have := C3.lt; omega
        have n3 : w3.heap.size + 1 + 1 ≠ w.heap.size + 1 := by have := B3.lt; omega
        have n4 : w3.heap.size + 1 + 1 ≠ w.heap.size + 1 + 1 := by have := C3.lt; omega
        have n9 : w3.heap.size ≠ w.heap.size := by omega
        have n10 : w.heap.size ≠ w3.heap.size := by omega
        have n5 := n1.symm
        have n6 := n2.symm
        have n7 := n3.symm
        have n8 := n4.symm
        clear A2 B2 C2 V2 hb3 kB ho2 B3 C3 V3
        go_wp2_with fail
        apply Calls.mono
        · with_reducible exact kL _
        rintro _ w4 ⟨rfl, hb4⟩
        have B5 := B4.below hb4 B4.lt
        have C5 := C4.below hb4 C4.lt
        have D5 := D4.below hb4 D4.lt
        have E5 := E4.below hb4 E4.lt
        have V5 := bthen V4 hb4 V4.size
        clear B4 C4 D4 E4 V4 hb4 kL a1 a2 zA A3
        have x1 := E5.cell 0
        have x2 := E5.cell 1
        have x3 := E5.lt
        go_wp2_with fail
        apply Calls.mono
        · with_reducible exact kR _
        rintro _ w5 ⟨rfl, hb5⟩
        have B6 := B5.below hb5 B5.lt
        have C6 := C5.below hb5 C5.lt
        have D6 := D5.below hb5 D5.lt
        have E6 := E5.below hb5 E5.lt
        have V6 := bthen V5 hb5 V5.size
        clear B5 C5 D5 E5 V5 hb5 kR x1 x2 x3
        have x1 := E6.cell 0
        have x2 := E6.cell 1
        have x3 := E6.lt
        have b1 := B6.cell 0
        have b2 := B6.cell 1
        have b3 := B6.frozen 0
        have b4 := B6.frozen 1
        have b5 := B6.lt
        have b6 := C6.cell 0
        have b7 := C6.cell 1
        have b8 := C6.frozen 0
        have b9 := C6.frozen 1
        have c0 := C6.lt
        have e0 := D6.cell 0
        have e1 := D6.cell 1
        have e2 := D6.lt
        clear B6 C6 D6 E6
        go_wp2
        refine bodyPost_ret (by simp [results, Try.results21, go_sem, *]; try rfl) rfl ?_
        refine ⟨by first | rfl | simp, ?_⟩
        repeat' (first | (with_reducible exact Below.refl _ _) | (with_reducible assumption) | (with_reducible refine Below.alloc ?_ ?_ _) | (with_reducible refine Below.drew ?_) | (with_reducible refine bdrewN ?_ _) | (with_reducible refine Below.setCell ?_ ?_ _) | (with_reducible refine bthen ?_ (by assumption) ?_) | go_size)
      · simp only [Bool.false_eq_true, if_false, if_true, Bool.and_false, Bool.and_self]
        go_enter Try.func21, Try.ntmps21
        go_wp2_with fail
        apply Calls.mono
        · with_reducible exact l05Code_any _ _ 0 H.out _
        rintro _ w1 ⟨rfl, hb1⟩
        have A1 := q0.below hb1 q0.lt
        have B1 := q1.below hb1 q1.lt
        have C1 := q2.below hb1 q2.lt
        have V1 := bthen bel0 hb1 bel0.size
        have a1 := A1.cell 0
        have a2 := A1.cell 1
        have zA := A1.lt
        clear q0 q1 q2 bel0 hb1
        go_wp2_with fail
        apply Calls.mono
        · with_reducible exact kP _
        rintro _ w2 ⟨v2, rfl, ho2, hb2⟩
        have A2 := A1.below hb2 A1.lt
        have B2 := B1.below hb2 B1.lt
        have C2 := C1.below hb2 C1.lt
        have V2 := bthen V1 hb2 V1.size
        clear A1 B1 C1 V1 a1 a2 zA hb2 kP
        go_wp2_with fail
        apply Calls.mono
        · with_reducible exact kB _ _ (Rd.of_own ho2)
        rintro _ w3 ⟨rfl, hb3⟩
        have A3 := A2.below hb3 A2.lt
        have B3 := B2.below hb3 B2.lt
        have C3 := C2.below hb3 C2.lt
        have V3 := bthen V2 hb3 V2.size
        have a1 := A3.cell 0
        have a2 := A3.cell 1
        have zA := A3.lt
        have B4 := ((B3.alloc (.cells #[.int .i64 p1, .int .i64 p2, .int .i64 r1, .int .i64 r2] 77)).alloc (.cells #[.int .i64 (n + p1), .int .i64 (d + p2)] 24)).alloc (.cells #[.int .i64 (n + r1), .int .i64 (d + r2)] 24)
        have C4 := ((C3.alloc (.cells #[.int .i64 p1, .int .i64 p2, .int .i64 r1, .int .i64 r2] 77)).alloc (.cells #[.int .i64 (n + p1), .int .i64 (d + p2)] 24)).alloc (.cells #[.int .i64 (n + r1), .int .i64 (d + r2)] 24)
        have D4 := (blk_at1' w3 24 #[.int .i64 (n + p1), .int .i64 (d + p2)] (.cells #[.int .i64 p1, .int .i64 p2, .int .i64 r1, .int .i64 r2] 77)).alloc (.cells #[.int .i64 (n + r1), .int .i64 (d + r2)] 24)
        have E4 := blk_at2' w3 24 #[.int .i64 (n + r1), .int .i64 (d + r2)] (.cells #[.int .i64 p1, .int .i64 p2, .int .i64 r1, .int .i64 r2] 77) (.cells #[.int .i64 (n + p1), .int .i64 (d + p2)] 24)
        have V4 := ((V3.alloc V3.size (.cells #[.int .i64 p1, .int .i64 p2, .int .i64 r1, .int .i64 r2] 77)).alloc (by rw [World.size_alloc]; have := V3.size; omega) (.cells #[.int .i64 (n + p1), .int .i64 (d + p2)] 24)).alloc (by rw [World.size_alloc, World.size_alloc]; have := V3.size; omega) (.cells #[.int .i64 (n + r1), .int .i64 (d + r2)] 24)
        have n1 : w3.heap.size + 1 ≠ w.heap.size + 1 := by have := B3.lt; omega
        have n2 : w3.heap.size + 1 ≠ w.heap.size + 1 + 1 := by have := C3.lt; omega
        have n3 : w3.heap.size + 1 + 1 ≠ w.heap.size + 1 := by have := B3.lt; omega
        have n4 : w3.heap.size + 1 + 1 ≠ w.heap.size + 1 + 1 := by have := C3.lt; omega
        have n9 : w3.heap.size ≠ w.heap.size := by omega
        have n10 : w.heap.size ≠ w3.heap.size := by omega
        have n5 := n1.symm
        have n6 := n2.symm
        have n7 := n3.symm
        have n8 := n4.symm
        clear A2 B2 C2 V2 hb3 kB ho2 B3 C3 V3
        go_wp2_with fail
        apply Calls.mono
        · with_reducible exact kL _
        rintro _ w4 ⟨rfl, hb4⟩
        have B5 := B4.below hb4 B4.lt
        have C5 := C4.below hb4 C4.lt
        have D5 := D4.below hb4 D4.lt
        have E5 := E4.below hb4 E4.lt
        have V5 := bthen V4 hb4 V4.size
        clear B4 C4 D4 E4 V4 hb4 kL a1 a2 zA A3
        have x1 := E5.cell 0
        have x2 := E5.cell 1
        have x3 := E5.lt
        go_wp2_with fail
        apply Calls.mono
        · with_reducible exact kR _
        rintro _ w5 ⟨rfl, hb5⟩
        have B6 := B5.below hb5 B5.lt
        have C6 := C5.below hb5 C5.lt
        have D6 := D5.below hb5 D5.lt
        have E6 := E5.below hb5 E5.lt
        have V6 := bthen V5 hb5 V5.size
        clear B5 C5 D5 E5 V5 hb5 kR x1 x2 x3
        have x1 := E6.cell 0
        have x2 := E6.cell 1
        have x3 := E6.lt
        have b1 := B6.cell 0
        have b2 := B6.cell 1
        have b3 := B6.frozen 0
        have b4 := B6.frozen 1
        have b5 := B6.lt
        have b6 := C6.cell 0
        have b7 := C6.cell 1
        have b8 := C6.frozen 0
        have b9 := C6.frozen 1
        have c0 := C6.lt
        have e0 := D6.cell 0
        have e1 := D6.cell 1
        have e2 := D6.lt
        clear B6 C6 D6 E6
        go_wp2_with fail
        go_region
        all_goals go_wp2
        all_goals
          refine bodyPost_ret (by simp [results, Try.results21, go_sem, *]; try rfl) rfl ?_
          refine ⟨by first | rfl | simp, ?_⟩
          repeat' (first | (with_reducible exact Below.refl _ _) | (with_reducible assumption) | (with_reducible refine Below.alloc ?_ ?_ _) | (with_reducible refine Below.drew ?_) | (with_reducible refine bdrewN ?_ _) | (with_reducible refine Below.setCell ?_ ?_ _) | (with_reducible refine bthen ?_ (by assumption) ?_) | go_size)
  · have hM : chM n d = ((0, 0), (0, 0), r) := by unfold chM; rw [if_neg (by rw [hr]; exact h0), hr]
    rw [hM]
    have hne : (r != 0) = true := by simp [h0]
    clear hr h0 hM
    go_enter Try.func21, Try.ntmps21
    go_wp2_with fail
    apply Calls.mono
    · with_reducible exact l05Code_any _ _ r H.out _
    rintro _ w1 ⟨rfl, hb1⟩
    have B1 := q1.below hb1 q1.lt
    have C1 := q2.below hb1 q2.lt
    have V1 := bthen bel0 hb1 bel0.size
    have b1 := B1.cell 0
    have b2 := B1.cell 1
    have b3 := B1.frozen 0
    have b4 := B1.frozen 1
    have b5 := B1.lt
    have c1 := C1.cell 0
    have c2 := C1.cell 1
    have c3 := C1.frozen 0
    have c4 := C1.frozen 1
    have c5 := C1.lt
    clear q0 q1 q2 B1 C1 bel0 hb1
    go_wp2
    refine bodyPost_ret (by simp [results, Try.results21, go_sem, *]; try rfl) rfl ?_
    refine ⟨by first | rfl | simp, ?_⟩
    repeat' (first | (with_reducible exact Below.refl _ _) | (with_reducible assumption) | (with_reducible refine Below.alloc ?_ ?_ _) | (with_reducible refine Below.drew ?_) | (with_reducible refine bdrewN ?_ _) | (with_reducible refine Below.setCell ?_ ?_ _) | (with_reducible refine bthen ?_ (by assumption) ?_) | go_size)
end Go.Proofs.Ytlmmpeeacjbobaa
