/-
  Draws of pairs: the three laws' own. Printed by mkpd.py.
-/
import Derived.Test.YtlmmpeeacjbobaaDp
import Derived.Test.YtlmmpeeacjbobaaFarey3
namespace Go.Proofs.Ytlmmpeeacjbobaa
open Go.RowKit

set_option maxHeartbeats 4000000 in
theorem drawCommon_any (A : Option Addr) (n c : Nat) (w : World) (hn : n ≤ 100000) (hr : ByteRd w w.heap.size A n) : Calls Try.prog 32 #[.slice A n c] w (RetFF w) := by
  have V0 : Below w.heap.size w ((w.alloc (.cells #[.int .i64 0, .int .i64 0] 24)).alloc (.cells #[.int .i64 0, .int .i64 0] 24)) := ((Below.refl _ _).alloc (Nat.le_refl _) _).alloc (by rw [World.size_alloc]; omega) _
  have hr0 : ByteRd ((w.alloc (.cells #[.int .i64 0, .int .i64 0] 24)).alloc (.cells #[.int .i64 0, .int .i64 0] 24)) ((w.alloc (.cells #[.int .i64 0, .int .i64 0] 24)).alloc (.cells #[.int .i64 0, .int .i64 0] 24)).heap.size A n := hr.below V0
  have B0 := (Blk.new w 24 #[.int .i64 0, .int .i64 0]).alloc (.cells #[.int .i64 0, .int .i64 0] 24)
  have B0' : Blk ((w.alloc (.cells #[.int .i64 0, .int .i64 0] 24)).alloc (.cells #[.int .i64 0, .int .i64 0] 24)) (w.heap.size + 1) 24 #[.int .i64 0, .int .i64 0] := blk_at1' w _ _ _
  go_enter Try.func32, Try.ntmps32
  go_wp2_with fail
  apply Calls.mono
  · with_reducible exact from_any A n c _ hn hr0
  rintro _ w1 ⟨g, rfl, s1, b1, hg⟩
  have B1 := B0.below b1 B0.lt
  have B1' := B0'.below b1 B0'.lt
  have V1 := bthen V0 b1 V0.size
  have hg' : w.heap.size + 1 < g := Nat.lt_of_lt_of_le B0'.lt hg
  have hgb : some w.heap.size ≠ some g := fun e => by injection e with e; omega
  have hgb' : some (w.heap.size + 1) ≠ some g := fun e => by injection e with e; omega
  clear hr hr0 B0 B0' V0 b1
  go_wp2_with fail
  apply Calls.mono
  · with_reducible exact l05Pair_any g 0 _ s1 (by omega)
  rintro _ w2 ⟨x, y, x', y', rfl, s2, g2⟩
  have B2 := B1.grown g2 hgb
  have B2' := B1'.grown g2 hgb'
  have V2 := bthen V1 (grown_base (B := w.heap.size) (by omega) V1.size g2) (Nat.le_refl _)
  have hlt := s2.lt'
  clear B1 B1' V1 g2 s1
  have c0 := B2.cell 0
  have c1 := B2.cell 1
  have f0 := B2.frozen 0
  have f1 := B2.frozen 1
  have c2 := B2'.cell 0
  have c3 := B2'.cell 1
  have f2 := B2'.frozen 0
  have f3 := B2'.frozen 1
  have z0 := B2.lt
  have z1 := B2'.lt
  clear B2 B2' s2
  go_wp2
  refine bodyPost_ret (by simp [results, Try.results32, go_sem, *]; try rfl) rfl ?_
  refine ⟨_, _, _, _, rfl, ?_⟩
  repeat' (first | (with_reducible exact Below.refl _ _) | (with_reducible assumption) | (with_reducible refine Below.alloc ?_ ?_ _) | (with_reducible refine Below.drew ?_) | (with_reducible refine bdrewN ?_ _) | (with_reducible refine Below.setCell ?_ ?_ _) | (with_reducible refine bthen ?_ (by assumption) ?_) | go_size)
set_option maxHeartbeats 4000000 in
theorem drawIsAnc_any (A : Option Addr) (n c : Nat) (w : World) (hn : n ≤ 100000) (hr : ByteRd w w.heap.size A n) : Calls Try.prog 33 #[.slice A n c] w (RetFF w) := by
  have V0 : Below w.heap.size w ((w.alloc (.cells #[.int .i64 0, .int .i64 0] 24)).alloc (.cells #[.int .i64 0, .int .i64 0] 24)) := ((Below.refl _ _).alloc (Nat.le_refl _) _).alloc (by rw [World.size_alloc]; omega) _
  have hr0 : ByteRd ((w.alloc (.cells #[.int .i64 0, .int .i64 0] 24)).alloc (.cells #[.int .i64 0, .int .i64 0] 24)) ((w.alloc (.cells #[.int .i64 0, .int .i64 0] 24)).alloc (.cells #[.int .i64 0, .int .i64 0] 24)).heap.size A n := hr.below V0
  have B0 := (Blk.new w 24 #[.int .i64 0, .int .i64 0]).alloc (.cells #[.int .i64 0, .int .i64 0] 24)
  have B0' : Blk ((w.alloc (.cells #[.int .i64 0, .int .i64 0] 24)).alloc (.cells #[.int .i64 0, .int .i64 0] 24)) (w.heap.size + 1) 24 #[.int .i64 0, .int .i64 0] := blk_at1' w _ _ _
  go_enter Try.func33, Try.ntmps33
  go_wp2_with fail
  apply Calls.mono
  · with_reducible exact from_any A n c _ hn hr0
  rintro _ w1 ⟨g, rfl, s1, b1, hg⟩
  have B1 := B0.below b1 B0.lt
  have B1' := B0'.below b1 B0'.lt
  have V1 := bthen V0 b1 V0.size
  have hg' : w.heap.size + 1 < g := Nat.lt_of_lt_of_le B0'.lt hg
  have hgb : some w.heap.size ≠ some g := fun e => by injection e with e; omega
  have hgb' : some (w.heap.size + 1) ≠ some g := fun e => by injection e with e; omega
  clear hr hr0 B0 B0' V0 b1
  go_wp2_with fail
  apply Calls.mono
  · with_reducible exact l05Pair_any g 0 _ s1 (by omega)
  rintro _ w2 ⟨x, y, x', y', rfl, s2, g2⟩
  have B2 := B1.grown g2 hgb
  have B2' := B1'.grown g2 hgb'
  have V2 := bthen V1 (grown_base (B := w.heap.size) (by omega) V1.size g2) (Nat.le_refl _)
  have hlt := s2.lt'
  clear B1 B1' V1 g2 s1
  have F3 : Four ((w2.alloc (.cells #[.int .i64 x, .int .i64 y] 24)).alloc (.cells #[.int .i64 x', .int .i64 y'] 24)) 24 w.heap.size w2.heap.size x y x' y' := ⟨(B2.alloc _).alloc _, (B2'.alloc _).alloc _, (Blk.new w2 _ _).alloc _, blk_at1' w2 _ _ _⟩
  have V3 := (V2.alloc V2.size (.cells #[.int .i64 x, .int .i64 y] 24)).alloc (by rw [World.size_alloc]; have := V2.size; omega) (.cells #[.int .i64 x', .int .i64 y'] 24)
  have S3 := (s2.alloc' (.cells #[.int .i64 x, .int .i64 y] 24)).alloc' (.cells #[.int .i64 x', .int .i64 y'] 24)
  have z2 := V2.size
  have hw2 : w.heap.size + 1 < w2.heap.size := by omega
  have ne1 : w.heap.size ≠ w2.heap.size := by omega
  have ne2 : w.heap.size ≠ w2.heap.size + 1 := by omega
  have ne3 : w.heap.size + 1 ≠ w2.heap.size := by omega
  have ne5 : w2.heap.size ≠ w.heap.size := by omega
  have ne6 : w2.heap.size + 1 ≠ w.heap.size := by omega
  have ne7 : w2.heap.size ≠ w.heap.size + 1 := by omega
  have ng1 : w2.heap.size ≠ g := by omega
  have ng2 : w2.heap.size + 1 ≠ g := by omega
  have ng3 : w.heap.size ≠ g := by omega
  have ng4 : w.heap.size + 1 ≠ g := by omega
  clear s2 B2 B2' V2
  go_wp2_with fail
  apply Calls.mono
  · with_reducible exact one_any g 60 2 _ S3 (by omega) (by omega) (by omega)
  rintro _ w3 ⟨t, rfl, s3, g3⟩
  have F4 := F3.grown g3 ng3 ng4 ng1 ng2
  have V4 := bthen V3 (grown_base (B := w.heap.size) (by omega) V3.size g3) (Nat.le_refl _)
  clear F3 V3 S3 g3 s3
  obtain ⟨⟨c0, c1, c2, c3⟩, ⟨d0, d1, d2, d3⟩, ⟨f0, f1, f2, f3⟩, z0, z1, z3, z4⟩ := F4.facts
  clear F4
  cases t
  · go_wp2_with fail
    go_region
    all_goals go_wp2
    all_goals refine bodyPost_ret (by simp [results, Try.results33, go_sem, *]; try rfl) rfl ?_
    all_goals refine ⟨_, _, _, _, rfl, ?_⟩
    all_goals (repeat' (first | (with_reducible exact Below.refl _ _) | (with_reducible assumption) | (with_reducible refine Below.alloc ?_ ?_ _) | (with_reducible refine Below.drew ?_) | (with_reducible refine bdrewN ?_ _) | (with_reducible refine Below.setCell ?_ ?_ _) | (with_reducible refine bthen ?_ (by assumption) ?_) | go_size))
  · go_wp2_with fail
    go_region
    all_goals go_wp2
    all_goals refine bodyPost_ret (by simp [results, Try.results33, go_sem, *]; try rfl) rfl ?_
    all_goals refine ⟨_, _, _, _, rfl, ?_⟩
    all_goals (repeat' (first | (with_reducible exact Below.refl _ _) | (with_reducible assumption) | (with_reducible refine Below.alloc ?_ ?_ _) | (with_reducible refine Below.drew ?_) | (with_reducible refine bdrewN ?_ _) | (with_reducible refine Below.setCell ?_ ?_ _) | (with_reducible refine bthen ?_ (by assumption) ?_) | go_size))
set_option maxHeartbeats 4000000 in
theorem drawSimplest_any (A : Option Addr) (n c : Nat) (w : World) (hn : n ≤ 100000) (hr : ByteRd w w.heap.size A n) : Calls Try.prog 29 #[.slice A n c] w (RetFF w) := by
  have V0 : Below w.heap.size w ((w.alloc (.cells #[.int .i64 0, .int .i64 0] 24)).alloc (.cells #[.int .i64 0, .int .i64 0] 24)) := ((Below.refl _ _).alloc (Nat.le_refl _) _).alloc (by rw [World.size_alloc]; omega) _
  have hr0 : ByteRd ((w.alloc (.cells #[.int .i64 0, .int .i64 0] 24)).alloc (.cells #[.int .i64 0, .int .i64 0] 24)) ((w.alloc (.cells #[.int .i64 0, .int .i64 0] 24)).alloc (.cells #[.int .i64 0, .int .i64 0] 24)).heap.size A n := hr.below V0
  have B0 := (Blk.new w 24 #[.int .i64 0, .int .i64 0]).alloc (.cells #[.int .i64 0, .int .i64 0] 24)
  have B0' : Blk ((w.alloc (.cells #[.int .i64 0, .int .i64 0] 24)).alloc (.cells #[.int .i64 0, .int .i64 0] 24)) (w.heap.size + 1) 24 #[.int .i64 0, .int .i64 0] := blk_at1' w _ _ _
  go_enter Try.func29, Try.ntmps29
  go_wp2_with fail
  apply Calls.mono
  · with_reducible exact from_any A n c _ hn hr0
  rintro _ w1 ⟨g, rfl, s1, b1, hg⟩
  have B1 := B0.below b1 B0.lt
  have B1' := B0'.below b1 B0'.lt
  have V1 := bthen V0 b1 V0.size
  have hg' : w.heap.size + 1 < g := Nat.lt_of_lt_of_le B0'.lt hg
  have hgb : some w.heap.size ≠ some g := fun e => by injection e with e; omega
  have hgb' : some (w.heap.size + 1) ≠ some g := fun e => by injection e with e; omega
  clear hr hr0 B0 B0' V0 b1
  go_wp2_with fail
  apply Calls.mono
  · with_reducible exact l05Pair_any g 0 _ s1 (by omega)
  rintro _ w2 ⟨x, y, x', y', rfl, s2, g2⟩
  have B2 := B1.grown g2 hgb
  have B2' := B1'.grown g2 hgb'
  have V2 := bthen V1 (grown_base (B := w.heap.size) (by omega) V1.size g2) (Nat.le_refl _)
  have hlt := s2.lt'
  clear B1 B1' V1 g2 s1
  have F3 : Four ((w2.alloc (.cells #[.int .i64 x, .int .i64 y] 24)).alloc (.cells #[.int .i64 x', .int .i64 y'] 24)) 24 w.heap.size w2.heap.size x y x' y' := ⟨(B2.alloc _).alloc _, (B2'.alloc _).alloc _, (Blk.new w2 _ _).alloc _, blk_at1' w2 _ _ _⟩
  have V3 := (V2.alloc V2.size (.cells #[.int .i64 x, .int .i64 y] 24)).alloc (by rw [World.size_alloc]; have := V2.size; omega) (.cells #[.int .i64 x', .int .i64 y'] 24)
  have S3 := (s2.alloc' (.cells #[.int .i64 x, .int .i64 y] 24)).alloc' (.cells #[.int .i64 x', .int .i64 y'] 24)
  have z2 := V2.size
  have hw2 : w.heap.size + 1 < w2.heap.size := by omega
  have ne1 : w.heap.size ≠ w2.heap.size := by omega
  have ne2 : w.heap.size ≠ w2.heap.size + 1 := by omega
  have ne3 : w.heap.size + 1 ≠ w2.heap.size := by omega
  have ne5 : w2.heap.size ≠ w.heap.size := by omega
  have ne6 : w2.heap.size + 1 ≠ w.heap.size := by omega
  have ne7 : w2.heap.size ≠ w.heap.size + 1 := by omega
  have ng1 : w2.heap.size ≠ g := by omega
  have ng2 : w2.heap.size + 1 ≠ g := by omega
  have ng3 : w.heap.size ≠ g := by omega
  have ng4 : w.heap.size + 1 ≠ g := by omega
  clear s2 B2 B2' V2
  obtain ⟨⟨c0, c1, c2, c3⟩, ⟨d0, d1, d2, d3⟩, ⟨f0, f1, f2, f3⟩, z0, z1, z3, z4⟩ := F3.facts
  obtain ⟨b1, hb1⟩ : ∃ b, okF x y = b := ⟨_, rfl⟩
  obtain ⟨b2, hb2⟩ : ∃ b, okF x' y' = b := ⟨_, rfl⟩
  have k1 := fun w => l02Ok_any x y b1 hb1 w
  have k2 := fun w => l02Ok_any x' y' b2 hb2 w
  cases b1
  · clear k2 hb1 hb2
    go_wp2_with fail
    apply Calls.mono
    · with_reducible exact k1 _
    rintro _ w4 ⟨rfl, hb⟩
    have F4 := F3.below hb
    have V4 := bthen V3 hb V3.size
    have S4 := S3.below hb
    clear F3 V3 S3 hb c0 c1 c2 c3 d0 d1 d2 d3 f0 f1 f2 f3 z0 z1 z3 z4
    obtain ⟨⟨c0, c1, c2, c3⟩, ⟨d0, d1, d2, d3⟩, ⟨f0, f1, f2, f3⟩, z0, z1, z3, z4⟩ := F4.facts
    clear k1
    go_wp2_with fail
    apply Calls.mono
    · with_reducible exact one_any g (60) 10 _ S4 (by omega) (by omega) (by omega)
    rintro _ w5 ⟨t, rfl, S5, hb⟩
    have F5 := F4.grown hb ng3 ng4 ng1 ng2
    have V5 := bthen V4 (grown_base (B := w.heap.size) (by omega) V4.size hb) (Nat.le_refl _)
    clear F4 V4 S4 hb c0 c1 c2 c3 d0 d1 d2 d3 f0 f1 f2 f3 z0 z1 z3 z4
    obtain ⟨⟨c0, c1, c2, c3⟩, ⟨d0, d1, d2, d3⟩, ⟨f0, f1, f2, f3⟩, z0, z1, z3, z4⟩ := F5.facts
    cases t
    · skip
      go_wp2_with fail
      apply Calls.mono
      · with_reducible exact one_any g (62) 10 _ S5 (by omega) (by omega) (by omega)
      rintro _ w6 ⟨t, rfl, S6, hb⟩
      have F6 := F5.grown hb ng3 ng4 ng1 ng2
      have V6 := bthen V5 (grown_base (B := w.heap.size) (by omega) V5.size hb) (Nat.le_refl _)
      clear F5 V5 S5 hb c0 c1 c2 c3 d0 d1 d2 d3 f0 f1 f2 f3 z0 z1 z3 z4
      obtain ⟨⟨c0, c1, c2, c3⟩, ⟨d0, d1, d2, d3⟩, ⟨f0, f1, f2, f3⟩, z0, z1, z3, z4⟩ := F6.facts
      cases t
      · clear F6 S6
        go_wp2_with fail
        go_region
        all_goals go_wp2
        all_goals refine bodyPost_ret (by simp [results, Try.results29, go_sem, *]; try rfl) rfl ?_
        all_goals refine ⟨_, _, _, _, rfl, ?_⟩
        all_goals (repeat' (first | (with_reducible exact Below.refl _ _) | (with_reducible assumption) | (with_reducible refine Below.alloc ?_ ?_ _) | (with_reducible refine Below.drew ?_) | (with_reducible refine bdrewN ?_ _) | (with_reducible refine Below.setCell ?_ ?_ _) | (with_reducible refine bthen ?_ (by assumption) ?_) | go_size))
      · clear F6 S6
        go_wp2
        refine bodyPost_ret (by simp [results, Try.results29, go_sem, *]; try rfl) rfl ?_
        refine ⟨_, _, _, _, rfl, ?_⟩
        repeat' (first | (with_reducible exact Below.refl _ _) | (with_reducible assumption) | (with_reducible refine Below.alloc ?_ ?_ _) | (with_reducible refine Below.drew ?_) | (with_reducible refine bdrewN ?_ _) | (with_reducible refine Below.setCell ?_ ?_ _) | (with_reducible refine bthen ?_ (by assumption) ?_) | go_size)
    · clear F5 S5
      go_wp2_with fail
      go_region
      all_goals go_wp2
      all_goals refine bodyPost_ret (by simp [results, Try.results29, go_sem, *]; try rfl) rfl ?_
      all_goals refine ⟨_, _, _, _, rfl, ?_⟩
      all_goals (repeat' (first | (with_reducible exact Below.refl _ _) | (with_reducible assumption) | (with_reducible refine Below.alloc ?_ ?_ _) | (with_reducible refine Below.drew ?_) | (with_reducible refine bdrewN ?_ _) | (with_reducible refine Below.setCell ?_ ?_ _) | (with_reducible refine bthen ?_ (by assumption) ?_) | go_size))
  · obtain ⟨u1, u2, u3, u4⟩ := okF_bd hb1
    clear hb1
    go_wp2_with fail
    apply Calls.mono
    · with_reducible exact k1 _
    rintro _ w4 ⟨rfl, hb⟩
    have F4 := F3.below hb
    have V4 := bthen V3 hb V3.size
    have S4 := S3.below hb
    clear F3 V3 S3 hb c0 c1 c2 c3 d0 d1 d2 d3 f0 f1 f2 f3 z0 z1 z3 z4
    obtain ⟨⟨c0, c1, c2, c3⟩, ⟨d0, d1, d2, d3⟩, ⟨f0, f1, f2, f3⟩, z0, z1, z3, z4⟩ := F4.facts
    clear k1
    cases b2
    · clear hb2
      go_wp2_with fail
      apply Calls.mono
      · with_reducible exact k2 _
      rintro _ w5 ⟨rfl, hb⟩
      have F5 := F4.below hb
      have V5 := bthen V4 hb V4.size
      have S5 := S4.below hb
      clear F4 V4 S4 hb c0 c1 c2 c3 d0 d1 d2 d3 f0 f1 f2 f3 z0 z1 z3 z4
      obtain ⟨⟨c0, c1, c2, c3⟩, ⟨d0, d1, d2, d3⟩, ⟨f0, f1, f2, f3⟩, z0, z1, z3, z4⟩ := F5.facts
      clear k2
      go_wp2_with fail
      apply Calls.mono
      · with_reducible exact one_any g (60) 10 _ S5 (by omega) (by omega) (by omega)
      rintro _ w6 ⟨t, rfl, S6, hb⟩
      have F6 := F5.grown hb ng3 ng4 ng1 ng2
      have V6 := bthen V5 (grown_base (B := w.heap.size) (by omega) V5.size hb) (Nat.le_refl _)
      clear F5 V5 S5 hb c0 c1 c2 c3 d0 d1 d2 d3 f0 f1 f2 f3 z0 z1 z3 z4
      obtain ⟨⟨c0, c1, c2, c3⟩, ⟨d0, d1, d2, d3⟩, ⟨f0, f1, f2, f3⟩, z0, z1, z3, z4⟩ := F6.facts
      cases t
      · skip
        go_wp2_with fail
        apply Calls.mono
        · with_reducible exact one_any g (62) 10 _ S6 (by omega) (by omega) (by omega)
        rintro _ w7 ⟨t, rfl, S7, hb⟩
        have F7 := F6.grown hb ng3 ng4 ng1 ng2
        have V7 := bthen V6 (grown_base (B := w.heap.size) (by omega) V6.size hb) (Nat.le_refl _)
        clear F6 V6 S6 hb c0 c1 c2 c3 d0 d1 d2 d3 f0 f1 f2 f3 z0 z1 z3 z4
        obtain ⟨⟨c0, c1, c2, c3⟩, ⟨d0, d1, d2, d3⟩, ⟨f0, f1, f2, f3⟩, z0, z1, z3, z4⟩ := F7.facts
        cases t
        · clear F7 S7
          go_wp2_with fail
          go_region
          all_goals go_wp2
          all_goals refine bodyPost_ret (by simp [results, Try.results29, go_sem, *]; try rfl) rfl ?_
          all_goals refine ⟨_, _, _, _, rfl, ?_⟩
          all_goals (repeat' (first | (with_reducible exact Below.refl _ _) | (with_reducible assumption) | (with_reducible refine Below.alloc ?_ ?_ _) | (with_reducible refine Below.drew ?_) | (with_reducible refine bdrewN ?_ _) | (with_reducible refine Below.setCell ?_ ?_ _) | (with_reducible refine bthen ?_ (by assumption) ?_) | go_size))
        · clear F7 S7
          go_wp2
          refine bodyPost_ret (by simp [results, Try.results29, go_sem, *]; try rfl) rfl ?_
          refine ⟨_, _, _, _, rfl, ?_⟩
          repeat' (first | (with_reducible exact Below.refl _ _) | (with_reducible assumption) | (with_reducible refine Below.alloc ?_ ?_ _) | (with_reducible refine Below.drew ?_) | (with_reducible refine bdrewN ?_ _) | (with_reducible refine Below.setCell ?_ ?_ _) | (with_reducible refine bthen ?_ (by assumption) ?_) | go_size)
      · clear F6 S6
        go_wp2_with fail
        go_region
        all_goals go_wp2
        all_goals refine bodyPost_ret (by simp [results, Try.results29, go_sem, *]; try rfl) rfl ?_
        all_goals refine ⟨_, _, _, _, rfl, ?_⟩
        all_goals (repeat' (first | (with_reducible exact Below.refl _ _) | (with_reducible assumption) | (with_reducible refine Below.alloc ?_ ?_ _) | (with_reducible refine Below.drew ?_) | (with_reducible refine bdrewN ?_ _) | (with_reducible refine Below.setCell ?_ ?_ _) | (with_reducible refine bthen ?_ (by assumption) ?_) | go_size))
    · obtain ⟨v1, v2, v3, v4⟩ := okF_bd hb2
      clear hb2
      obtain ⟨lb, hlb⟩ : ∃ b, decide (x' * y < x * y') = b := ⟨_, rfl⟩
      have k3 := fun w => l02Less_any x' y' x y (by omega) (by omega) (by omega) (by omega) (by omega) (by omega) (by omega) (by omega) lb hlb w
      clear hlb u1 u2 u3 u4 v1 v2 v3 v4
      go_wp2_with fail
      apply Calls.mono
      · with_reducible exact k2 _
      rintro _ w5 ⟨rfl, hb⟩
      have F5 := F4.below hb
      have V5 := bthen V4 hb V4.size
      have S5 := S4.below hb
      clear F4 V4 S4 hb c0 c1 c2 c3 d0 d1 d2 d3 f0 f1 f2 f3 z0 z1 z3 z4
      obtain ⟨⟨c0, c1, c2, c3⟩, ⟨d0, d1, d2, d3⟩, ⟨f0, f1, f2, f3⟩, z0, z1, z3, z4⟩ := F5.facts
      clear k2
      go_wp2_with fail
      apply Calls.mono
      · with_reducible exact k3 _
      rintro _ w6 ⟨rfl, hb⟩
      have F6 := F5.below hb
      have V6 := bthen V5 hb V5.size
      have S6 := S5.below hb
      clear F5 V5 S5 hb c0 c1 c2 c3 d0 d1 d2 d3 f0 f1 f2 f3 z0 z1 z3 z4
      obtain ⟨⟨c0, c1, c2, c3⟩, ⟨d0, d1, d2, d3⟩, ⟨f0, f1, f2, f3⟩, z0, z1, z3, z4⟩ := F6.facts
      clear k3
      cases lb
      · skip
        go_wp2_with fail
        apply Calls.mono
        · with_reducible exact one_any g (60) 10 _ S6 (by omega) (by omega) (by omega)
        rintro _ w7 ⟨t, rfl, S7, hb⟩
        have F7 := F6.grown hb ng3 ng4 ng1 ng2
        have V7 := bthen V6 (grown_base (B := w.heap.size) (by omega) V6.size hb) (Nat.le_refl _)
        clear F6 V6 S6 hb c0 c1 c2 c3 d0 d1 d2 d3 f0 f1 f2 f3 z0 z1 z3 z4
        obtain ⟨⟨c0, c1, c2, c3⟩, ⟨d0, d1, d2, d3⟩, ⟨f0, f1, f2, f3⟩, z0, z1, z3, z4⟩ := F7.facts
        cases t
        · skip
          go_wp2_with fail
          apply Calls.mono
          · with_reducible exact one_any g (62) 10 _ S7 (by omega) (by omega) (by omega)
          rintro _ w8 ⟨t, rfl, S8, hb⟩
          have F8 := F7.grown hb ng3 ng4 ng1 ng2
          have V8 := bthen V7 (grown_base (B := w.heap.size) (by omega) V7.size hb) (Nat.le_refl _)
          clear F7 V7 S7 hb c0 c1 c2 c3 d0 d1 d2 d3 f0 f1 f2 f3 z0 z1 z3 z4
          obtain ⟨⟨c0, c1, c2, c3⟩, ⟨d0, d1, d2, d3⟩, ⟨f0, f1, f2, f3⟩, z0, z1, z3, z4⟩ := F8.facts
          cases t
          · clear F8 S8
            go_wp2_with fail
            go_region
            all_goals go_wp2
            all_goals refine bodyPost_ret (by simp [results, Try.results29, go_sem, *]; try rfl) rfl ?_
            all_goals refine ⟨_, _, _, _, rfl, ?_⟩
            all_goals (repeat' (first | (with_reducible exact Below.refl _ _) | (with_reducible assumption) | (with_reducible refine Below.alloc ?_ ?_ _) | (with_reducible refine Below.drew ?_) | (with_reducible refine bdrewN ?_ _) | (with_reducible refine Below.setCell ?_ ?_ _) | (with_reducible refine bthen ?_ (by assumption) ?_) | go_size))
          · clear F8 S8
            go_wp2
            refine bodyPost_ret (by simp [results, Try.results29, go_sem, *]; try rfl) rfl ?_
            refine ⟨_, _, _, _, rfl, ?_⟩
            repeat' (first | (with_reducible exact Below.refl _ _) | (with_reducible assumption) | (with_reducible refine Below.alloc ?_ ?_ _) | (with_reducible refine Below.drew ?_) | (with_reducible refine bdrewN ?_ _) | (with_reducible refine Below.setCell ?_ ?_ _) | (with_reducible refine bthen ?_ (by assumption) ?_) | go_size)
        · clear F7 S7
          go_wp2_with fail
          go_region
          all_goals go_wp2
          all_goals refine bodyPost_ret (by simp [results, Try.results29, go_sem, *]; try rfl) rfl ?_
          all_goals refine ⟨_, _, _, _, rfl, ?_⟩
          all_goals (repeat' (first | (with_reducible exact Below.refl _ _) | (with_reducible assumption) | (with_reducible refine Below.alloc ?_ ?_ _) | (with_reducible refine Below.drew ?_) | (with_reducible refine bdrewN ?_ _) | (with_reducible refine Below.setCell ?_ ?_ _) | (with_reducible refine bthen ?_ (by assumption) ?_) | go_size))
      · skip
        go_wp2_with fail
        apply Calls.mono
        · with_reducible exact one_any g 60 6 _ S6 (by omega) (by omega) (by omega)
        rintro _ w7 ⟨t, rfl, S7, hb⟩
        have F7 := F6.grown hb ng3 ng4 ng1 ng2
        have V7 := bthen V6 (grown_base (B := w.heap.size) (by omega) V6.size hb) (Nat.le_refl _)
        clear F6 V6 S6 hb c0 c1 c2 c3 d0 d1 d2 d3 f0 f1 f2 f3 z0 z1 z3 z4
        obtain ⟨⟨c0, c1, c2, c3⟩, ⟨d0, d1, d2, d3⟩, ⟨f0, f1, f2, f3⟩, z0, z1, z3, z4⟩ := F7.facts
        cases t
        · clear F7 S7
          go_wp2_with fail
          go_region
          all_goals go_wp2
          all_goals refine bodyPost_ret (by simp [results, Try.results29, go_sem, *]; try rfl) rfl ?_
          all_goals refine ⟨_, _, _, _, rfl, ?_⟩
          all_goals (repeat' (first | (with_reducible exact Below.refl _ _) | (with_reducible assumption) | (with_reducible refine Below.alloc ?_ ?_ _) | (with_reducible refine Below.drew ?_) | (with_reducible refine bdrewN ?_ _) | (with_reducible refine Below.setCell ?_ ?_ _) | (with_reducible refine bthen ?_ (by assumption) ?_) | go_size))
        · skip
          go_wp2_with fail
          apply Calls.mono
          · with_reducible exact one_any g (62) 10 _ S7 (by omega) (by omega) (by omega)
          rintro _ w8 ⟨t, rfl, S8, hb⟩
          have F8 := F7.grown hb ng3 ng4 ng1 ng2
          have V8 := bthen V7 (grown_base (B := w.heap.size) (by omega) V7.size hb) (Nat.le_refl _)
          clear F7 V7 S7 hb c0 c1 c2 c3 d0 d1 d2 d3 f0 f1 f2 f3 z0 z1 z3 z4
          obtain ⟨⟨c0, c1, c2, c3⟩, ⟨d0, d1, d2, d3⟩, ⟨f0, f1, f2, f3⟩, z0, z1, z3, z4⟩ := F8.facts
          cases t
          · skip
            go_wp2_with fail
            apply Calls.mono
            · with_reducible exact one_any g (64) 10 _ S8 (by omega) (by omega) (by omega)
            rintro _ w9 ⟨t, rfl, S9, hb⟩
            have F9 := F8.grown hb ng3 ng4 ng1 ng2
            have V9 := bthen V8 (grown_base (B := w.heap.size) (by omega) V8.size hb) (Nat.le_refl _)
            clear F8 V8 S8 hb c0 c1 c2 c3 d0 d1 d2 d3 f0 f1 f2 f3 z0 z1 z3 z4
            obtain ⟨⟨c0, c1, c2, c3⟩, ⟨d0, d1, d2, d3⟩, ⟨f0, f1, f2, f3⟩, z0, z1, z3, z4⟩ := F9.facts
            cases t
            · clear F9 S9
              go_wp2_with fail
              go_region
              all_goals go_wp2
              all_goals refine bodyPost_ret (by simp [results, Try.results29, go_sem, *]; try rfl) rfl ?_
              all_goals refine ⟨_, _, _, _, rfl, ?_⟩
              all_goals (repeat' (first | (with_reducible exact Below.refl _ _) | (with_reducible assumption) | (with_reducible refine Below.alloc ?_ ?_ _) | (with_reducible refine Below.drew ?_) | (with_reducible refine bdrewN ?_ _) | (with_reducible refine Below.setCell ?_ ?_ _) | (with_reducible refine bthen ?_ (by assumption) ?_) | go_size))
            · clear F9 S9
              go_wp2
              refine bodyPost_ret (by simp [results, Try.results29, go_sem, *]; try rfl) rfl ?_
              refine ⟨_, _, _, _, rfl, ?_⟩
              repeat' (first | (with_reducible exact Below.refl _ _) | (with_reducible assumption) | (with_reducible refine Below.alloc ?_ ?_ _) | (with_reducible refine Below.drew ?_) | (with_reducible refine bdrewN ?_ _) | (with_reducible refine Below.setCell ?_ ?_ _) | (with_reducible refine bthen ?_ (by assumption) ?_) | go_size)
          · clear F8 S8
            go_wp2_with fail
            go_region
            all_goals go_wp2
            all_goals refine bodyPost_ret (by simp [results, Try.results29, go_sem, *]; try rfl) rfl ?_
            all_goals refine ⟨_, _, _, _, rfl, ?_⟩
            all_goals (repeat' (first | (with_reducible exact Below.refl _ _) | (with_reducible assumption) | (with_reducible refine Below.alloc ?_ ?_ _) | (with_reducible refine Below.drew ?_) | (with_reducible refine bdrewN ?_ _) | (with_reducible refine Below.setCell ?_ ?_ _) | (with_reducible refine bthen ?_ (by assumption) ?_) | go_size))
end Go.Proofs.Ytlmmpeeacjbobaa
