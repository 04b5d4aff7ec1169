/-
  For all arguments the program's CommonAncestor returns what the reference's returns. Conditions: none.
-/
import Derived.Test.YtlmmpeeacjbobaaCd
import Derived.Deep.RegionHeld3
import Derived.Deep.CutRange
import Derived.Test.YtlmmpeeacjbobaaLaw
namespace Go.Proofs.Ytlmmpeeacjbobaa
open Go.ChangeShapes Go.WideShapes Go.ChangeAt Go.RowKit Go.Joins
open Go.ChangeMaps (open_string shut_string)
set_option linter.unusedVariables false


set_option maxRecDepth 100000 in
set_option maxHeartbeats 4000000 in
theorem walk_FnExactCommonAncestor (x y : Int) (wx : (Lit.int .i64 x).wf = true) (wy : (Lit.int .i64 y).wf = true) (z t : Int) (wz : (Lit.int .i64 z).wf = true) (wt : (Lit.int .i64 t).wf = true) (w : World) :
    Calls Try.prog 4 #[.agg #[.int .i64 x, .int .i64 y], .agg #[.int .i64 z, .int .i64 t]] w (Ret w (.bool true)) := by
  clear wx wy wz wt
  have kI := fun w => commonI_any x y z t w
  have kS := fun w => commonS_any x y z t w
  generalize caC x y z t = M at *
  obtain ⟨X, Y, M2⟩ := M
  have e1 : (X == X && Y == Y) = true := by simp
  have E1 := Lib.hid e1
  clear e1
  simp only at kI kS
  have hA := (Blk.new w 23 #[.int .i64 x, .int .i64 y]).alloc (.cells #[.int .i64 z, .int .i64 t] 23)
  have hC := Blk.new (w.alloc (.cells #[.int .i64 x, .int .i64 y] 23)) 23 #[.int .i64 z, .int .i64 t]
  rw [World.size_alloc] at hC
  have bel0 : Below w.heap.size w ((w.alloc (.cells #[.int .i64 x, .int .i64 y] 23)).alloc (.cells #[.int .i64 z, .int .i64 t] 23)) := by repeat' (first | (with_reducible exact Below.refl _ _) | (with_reducible assumption) | (with_reducible refine Below.alloc ?_ ?_ _) | (with_reducible refine Below.drew ?_) | (with_reducible refine bdrewN ?_ _) | (with_reducible refine Below.setCell ?_ ?_ _) | (with_reducible refine bthen ?_ (by assumption) ?_) | go_size)
  go_enter Try.func4, Try.ntmps4
  go_wp2_with fail
  generalize (w.alloc (.cells #[.int .i64 x, .int .i64 y] 23)).alloc (.cells #[.int .i64 z, .int .i64 t] 23) = W0 at *
  have kA : ∀ wx, Below W0.heap.size W0 wx → Calls Try.prog 9 #[.agg #[.int .i64 x, .int .i64 y]] wx (fun e w' => e = .returned (.agg #[.int .i64 x, .int .i64 y]) ∧ Below W0.heap.size W0 w') := fun wx hb => (toFraction_any x y wx).mono fun e w' h => ⟨h.1, bthen hb h.2 hb.size⟩
  have kA' : ∀ wx g, Below W0.heap.size W0 wx → Blk wx g 24 #[.int .i64 0, .int .i64 0] → W0.heap.size ≤ g → Calls Try.prog 9 #[.agg #[.int .i64 x, .int .i64 y]] wx (fun e w' => e = .returned (.agg #[.int .i64 x, .int .i64 y]) ∧ Below W0.heap.size W0 w' ∧ Blk w' g 24 #[.int .i64 0, .int .i64 0] ∧ W0.heap.size ≤ g ∧ (w'.cell? ⟨g, 0, none⟩ = some (.int .i64 0) ∧ w'.cell? ⟨g, 1, none⟩ = some (.int .i64 0) ∧ w'.frozen? ⟨g, 0, none⟩ = false ∧ w'.frozen? ⟨g, 1, none⟩ = false) ∧ g < w'.heap.size) := fun wx g hb hN hg => (toFraction_any x y wx).mono fun e w' h => (by have hn := hN.below h.2 hN.lt; exact ⟨h.1, bthen hb h.2 hb.size, hn, hg, ⟨hn.cell 0, hn.cell 1, hn.frozen 0, hn.frozen 1⟩, hn.lt⟩)
  have kB : ∀ wx, Below W0.heap.size W0 wx → Calls Try.prog 9 #[.agg #[.int .i64 z, .int .i64 t]] wx (fun e w' => e = .returned (.agg #[.int .i64 z, .int .i64 t]) ∧ Below W0.heap.size W0 w') := fun wx hb => (toFraction_any z t wx).mono fun e w' h => ⟨h.1, bthen hb h.2 hb.size⟩
  have kB' : ∀ wx g, Below W0.heap.size W0 wx → Blk wx g 24 #[.int .i64 0, .int .i64 0] → W0.heap.size ≤ g → Calls Try.prog 9 #[.agg #[.int .i64 z, .int .i64 t]] wx (fun e w' => e = .returned (.agg #[.int .i64 z, .int .i64 t]) ∧ Below W0.heap.size W0 w' ∧ Blk w' g 24 #[.int .i64 0, .int .i64 0] ∧ W0.heap.size ≤ g ∧ (w'.cell? ⟨g, 0, none⟩ = some (.int .i64 0) ∧ w'.cell? ⟨g, 1, none⟩ = some (.int .i64 0) ∧ w'.frozen? ⟨g, 0, none⟩ = false ∧ w'.frozen? ⟨g, 1, none⟩ = false) ∧ g < w'.heap.size) := fun wx g hb hN hg => (toFraction_any z t wx).mono fun e w' h => (by have hn := hN.below h.2 hN.lt; exact ⟨h.1, bthen hb h.2 hb.size, hn, hg, ⟨hn.cell 0, hn.cell 1, hn.frozen 0, hn.frozen 1⟩, hn.lt⟩)
  have kM : ∀ wx, Below W0.heap.size W0 wx → Calls Try.prog 12 #[.agg #[.int .i64 x, .int .i64 y], .agg #[.int .i64 z, .int .i64 t]] wx (fun e w' => e = .returned (.tuple #[.agg #[.int .i64 X, .int .i64 Y], .int .i64 M2]) ∧ Below W0.heap.size W0 w') := fun wx hb => (kS wx).mono fun e w' h => ⟨h.1, bthen hb h.2 hb.size⟩
  have kM' : ∀ wx g, Below W0.heap.size W0 wx → Blk wx g 24 #[.int .i64 0, .int .i64 0] → W0.heap.size ≤ g → Calls Try.prog 12 #[.agg #[.int .i64 x, .int .i64 y], .agg #[.int .i64 z, .int .i64 t]] wx (fun e w' => e = .returned (.tuple #[.agg #[.int .i64 X, .int .i64 Y], .int .i64 M2]) ∧ Below W0.heap.size W0 w' ∧ Blk w' g 24 #[.int .i64 0, .int .i64 0] ∧ W0.heap.size ≤ g ∧ (w'.cell? ⟨g, 0, none⟩ = some (.int .i64 0) ∧ w'.cell? ⟨g, 1, none⟩ = some (.int .i64 0) ∧ w'.frozen? ⟨g, 0, none⟩ = false ∧ w'.frozen? ⟨g, 1, none⟩ = false) ∧ g < w'.heap.size) := fun wx g hb hN hg => (kS wx).mono fun e w' h => (by have hn := hN.below h.2 hN.lt; exact ⟨h.1, bthen hb h.2 hb.size, hn, hg, ⟨hn.cell 0, hn.cell 1, hn.frozen 0, hn.frozen 1⟩, hn.lt⟩)
  have KS : ∀ wx, Below W0.heap.size W0 wx → wx.cell? ⟨w.heap.size, 0, none⟩ = some (.int .i64 x) ∧ wx.cell? ⟨w.heap.size, 1, none⟩ = some (.int .i64 y) ∧ wx.cell? ⟨w.heap.size + 1, 0, none⟩ = some (.int .i64 z) ∧ wx.cell? ⟨w.heap.size + 1, 1, none⟩ = some (.int .i64 t) := fun wx hb => by
    have g1 := hA.below hb hA.lt
    have g2 := hC.below hb hC.lt
    exact ⟨g1.cell 0, g1.cell 1, g2.cell 0, g2.cell 1⟩
  obtain ⟨l1, l2, l3, l4⟩ := KS W0 (Below.refl _ _)
  go_wp2_with fail
  go_upto_region 1 with fail
  go_cut [5, 6] from 9 (fun s7 s8 wx => ∃ g7, s7 = .pointer (some ⟨g7, 0, none⟩) ∧ s8 = .int .i64 M2 ∧ Blk wx g7 24 #[.int .i64 X, .int .i64 Y] ∧ Below W0.heap.size W0 wx ∧ W0.heap.size ≤ g7)
  case first =>
    go_region_held3 (fun wx => wx.cell? ⟨w.heap.size, 0, none⟩ = some (.int .i64 x) ∧ wx.cell? ⟨w.heap.size, 1, none⟩ = some (.int .i64 y) ∧ wx.cell? ⟨w.heap.size + 1, 0, none⟩ = some (.int .i64 z) ∧ wx.cell? ⟨w.heap.size + 1, 1, none⟩ = some (.int .i64 t))
      (first | exact KS _ bx | exact KS _ (bx.alloc bx.size _) | exact KS _ ((bx.setCell (p := ⟨_, 0, none⟩) hgN _).setCell (p := ⟨_, 1, none⟩) hgN _) | exact KS _ (Below.refl _ _).drew | exact KS _ ((Below.refl _ _).alloc (Nat.le_refl _) _).drew | go_keep)
      (first
        | (go_at_call_of 9 (Value.agg #[Value.int .i64 x, Value.int .i64 y]); refine (kA' _ _ (by first | exact bx | exact bx.alloc bx.size _ | exact (Below.refl _ _).drew | exact ((Below.refl _ _).alloc (Nat.le_refl _) _).drew) (by first | exact hN | exact Blk.new _ _ _ | exact (Blk.new _ _ _).drew) (by first | exact hgN | exact bx.size | exact Nat.le_refl _)).mono ?_; rintro _ w2 ⟨rfl, bx, hN, hgN, ⟨n1, n2, n3, n4⟩, n5⟩)
        | (go_at_call_of 9 (Value.agg #[Value.int .i64 x, Value.int .i64 y]); refine (kA _ ?_).mono ?_; (first | exact bx | exact bx.alloc bx.size _ | exact (Below.refl _ _).drew | exact ((Below.refl _ _).alloc (Nat.le_refl _) _).drew); rintro _ w2 ⟨rfl, bx⟩)
        | (go_at_call_of 9 (Value.agg #[Value.int .i64 z, Value.int .i64 t]); refine (kB' _ _ (by first | exact bx | exact bx.alloc bx.size _ | exact (Below.refl _ _).drew | exact ((Below.refl _ _).alloc (Nat.le_refl _) _).drew) (by first | exact hN | exact Blk.new _ _ _ | exact (Blk.new _ _ _).drew) (by first | exact hgN | exact bx.size | exact Nat.le_refl _)).mono ?_; rintro _ w2 ⟨rfl, bx, hN, hgN, ⟨n1, n2, n3, n4⟩, n5⟩)
        | (go_at_call_of 9 (Value.agg #[Value.int .i64 z, Value.int .i64 t]); refine (kB _ ?_).mono ?_; (first | exact bx | exact bx.alloc bx.size _ | exact (Below.refl _ _).drew | exact ((Below.refl _ _).alloc (Nat.le_refl _) _).drew); rintro _ w2 ⟨rfl, bx⟩)
        | (go_at_call 12; refine (kM' _ _ (by first | exact bx | exact bx.alloc bx.size _ | exact (Below.refl _ _).drew | exact ((Below.refl _ _).alloc (Nat.le_refl _) _).drew) (by first | exact hN | exact Blk.new _ _ _ | exact (Blk.new _ _ _).drew) (by first | exact hgN | exact bx.size | exact Nat.le_refl _)).mono ?_; rintro _ w2 ⟨rfl, bx, hN, hgN, ⟨n1, n2, n3, n4⟩, n5⟩)
        | (go_at_call 12; refine (kM _ ?_).mono ?_; (first | exact bx | exact bx.alloc bx.size _ | exact (Below.refl _ _).drew | exact ((Below.refl _ _).alloc (Nat.le_refl _) _).drew); rintro _ w2 ⟨rfl, bx⟩))
    all_goals go_wp2_with fail
    all_goals go_meet
    all_goals first | exact ⟨_, rfl, rfl, hN.set2 _ _, (bx.setCell (p := ⟨_, 0, none⟩) hgN _).setCell (p := ⟨_, 1, none⟩) hgN _, hgN⟩ | exact ⟨_, rfl, rfl, Blk.new _ _ _, bx.alloc bx.size _, bx.size⟩
  case rest =>
    clear kA kB kM kA' kB' kM' KS l1 l2 l3 l4
    obtain ⟨W1, hW1⟩ : ∃ W1, W1 = wc := ⟨_, rfl⟩
    subst hW1
    obtain ⟨g7, rfl, rfl, h7, bel1, hg7⟩ := hcut
    have hA := hA.below bel1 hA.lt
    have hC := hC.below bel1 hC.lt
    have bel2 := bthen bel0 bel1 bel0.size
    have q7 := h7.lt
    have kA : ∀ wx, Below W1.heap.size W1 wx → Calls Try.prog 9 #[.agg #[.int .i64 x, .int .i64 y]] wx (fun e w' => e = .returned (.agg #[.int .i64 x, .int .i64 y]) ∧ Below W1.heap.size W1 w') := fun wx hb => (toFraction_any x y wx).mono fun e w' h => ⟨h.1, bthen hb h.2 hb.size⟩
    have kA' : ∀ wx g, Below W1.heap.size W1 wx → Blk wx g 24 #[.int .i64 0, .int .i64 0] → W1.heap.size ≤ g → Calls Try.prog 9 #[.agg #[.int .i64 x, .int .i64 y]] wx (fun e w' => e = .returned (.agg #[.int .i64 x, .int .i64 y]) ∧ Below W1.heap.size W1 w' ∧ Blk w' g 24 #[.int .i64 0, .int .i64 0] ∧ W1.heap.size ≤ g ∧ (w'.cell? ⟨g, 0, none⟩ = some (.int .i64 0) ∧ w'.cell? ⟨g, 1, none⟩ = some (.int .i64 0) ∧ w'.frozen? ⟨g, 0, none⟩ = false ∧ w'.frozen? ⟨g, 1, none⟩ = false) ∧ g < w'.heap.size) := fun wx g hb hN hg => (toFraction_any x y wx).mono fun e w' h => (by have hn := hN.below h.2 hN.lt; exact ⟨h.1, bthen hb h.2 hb.size, hn, hg, ⟨hn.cell 0, hn.cell 1, hn.frozen 0, hn.frozen 1⟩, hn.lt⟩)
    have kB : ∀ wx, Below W1.heap.size W1 wx → Calls Try.prog 9 #[.agg #[.int .i64 z, .int .i64 t]] wx (fun e w' => e = .returned (.agg #[.int .i64 z, .int .i64 t]) ∧ Below W1.heap.size W1 w') := fun wx hb => (toFraction_any z t wx).mono fun e w' h => ⟨h.1, bthen hb h.2 hb.size⟩
    have kB' : ∀ wx g, Below W1.heap.size W1 wx → Blk wx g 24 #[.int .i64 0, .int .i64 0] → W1.heap.size ≤ g → Calls Try.prog 9 #[.agg #[.int .i64 z, .int .i64 t]] wx (fun e w' => e = .returned (.agg #[.int .i64 z, .int .i64 t]) ∧ Below W1.heap.size W1 w' ∧ Blk w' g 24 #[.int .i64 0, .int .i64 0] ∧ W1.heap.size ≤ g ∧ (w'.cell? ⟨g, 0, none⟩ = some (.int .i64 0) ∧ w'.cell? ⟨g, 1, none⟩ = some (.int .i64 0) ∧ w'.frozen? ⟨g, 0, none⟩ = false ∧ w'.frozen? ⟨g, 1, none⟩ = false) ∧ g < w'.heap.size) := fun wx g hb hN hg => (toFraction_any z t wx).mono fun e w' h => (by have hn := hN.below h.2 hN.lt; exact ⟨h.1, bthen hb h.2 hb.size, hn, hg, ⟨hn.cell 0, hn.cell 1, hn.frozen 0, hn.frozen 1⟩, hn.lt⟩)
    have kM : ∀ wx, Below W1.heap.size W1 wx → Calls Try.prog 13 #[.agg #[.int .i64 x, .int .i64 y], .agg #[.int .i64 z, .int .i64 t]] wx (fun e w' => e = .returned (.tuple #[.agg #[.int .i64 X, .int .i64 Y], .int .i64 M2]) ∧ Below W1.heap.size W1 w') := fun wx hb => (kI wx).mono fun e w' h => ⟨h.1, bthen hb h.2 hb.size⟩
    have kM' : ∀ wx g, Below W1.heap.size W1 wx → Blk wx g 24 #[.int .i64 0, .int .i64 0] → W1.heap.size ≤ g → Calls Try.prog 13 #[.agg #[.int .i64 x, .int .i64 y], .agg #[.int .i64 z, .int .i64 t]] wx (fun e w' => e = .returned (.tuple #[.agg #[.int .i64 X, .int .i64 Y], .int .i64 M2]) ∧ Below W1.heap.size W1 w' ∧ Blk w' g 24 #[.int .i64 0, .int .i64 0] ∧ W1.heap.size ≤ g ∧ (w'.cell? ⟨g, 0, none⟩ = some (.int .i64 0) ∧ w'.cell? ⟨g, 1, none⟩ = some (.int .i64 0) ∧ w'.frozen? ⟨g, 0, none⟩ = false ∧ w'.frozen? ⟨g, 1, none⟩ = false) ∧ g < w'.heap.size) := fun wx g hb hN hg => (kI wx).mono fun e w' h => (by have hn := hN.below h.2 hN.lt; exact ⟨h.1, bthen hb h.2 hb.size, hn, hg, ⟨hn.cell 0, hn.cell 1, hn.frozen 0, hn.frozen 1⟩, hn.lt⟩)
    have KS : ∀ wx, Below W1.heap.size W1 wx → wx.cell? ⟨w.heap.size, 0, none⟩ = some (.int .i64 x) ∧ wx.cell? ⟨w.heap.size, 1, none⟩ = some (.int .i64 y) ∧ wx.cell? ⟨w.heap.size + 1, 0, none⟩ = some (.int .i64 z) ∧ wx.cell? ⟨w.heap.size + 1, 1, none⟩ = some (.int .i64 t) := fun wx hb => by
      have g1 := hA.below hb hA.lt
      have g2 := hC.below hb hC.lt
      exact ⟨g1.cell 0, g1.cell 1, g2.cell 0, g2.cell 1⟩
    obtain ⟨l1, l2, l3, l4⟩ := KS W1 (Below.refl _ _)
    go_wp2_with fail
    go_upto_region 2 with fail
    go_cut [7, 8] from 9 (fun s7 s8 wx => ∃ g7, s7 = .pointer (some ⟨g7, 0, none⟩) ∧ s8 = .int .i64 M2 ∧ Blk wx g7 24 #[.int .i64 X, .int .i64 Y] ∧ Below W1.heap.size W1 wx ∧ W1.heap.size ≤ g7)
    case first =>
      go_region_held3 (fun wx => wx.cell? ⟨w.heap.size, 0, none⟩ = some (.int .i64 x) ∧ wx.cell? ⟨w.heap.size, 1, none⟩ = some (.int .i64 y) ∧ wx.cell? ⟨w.heap.size + 1, 0, none⟩ = some (.int .i64 z) ∧ wx.cell? ⟨w.heap.size + 1, 1, none⟩ = some (.int .i64 t))
        (first | exact KS _ bx | exact KS _ (bx.alloc bx.size _) | exact KS _ ((bx.setCell (p := ⟨_, 0, none⟩) hgN _).setCell (p := ⟨_, 1, none⟩) hgN _) | exact KS _ (Below.refl _ _).drew | exact KS _ ((Below.refl _ _).alloc (Nat.le_refl _) _).drew | go_keep)
        (first
          | (go_at_call_of 9 (Value.agg #[Value.int .i64 x, Value.int .i64 y]); refine (kA' _ _ (by first | exact bx | exact bx.alloc bx.size _ | exact (Below.refl _ _).drew | exact ((Below.refl _ _).alloc (Nat.le_refl _) _).drew) (by first | exact hN | exact Blk.new _ _ _ | exact (Blk.new _ _ _).drew) (by first | exact hgN | exact bx.size | exact Nat.le_refl _)).mono ?_; rintro _ w2 ⟨rfl, bx, hN, hgN, ⟨n1, n2, n3, n4⟩, n5⟩)
          | (go_at_call_of 9 (Value.agg #[Value.int .i64 x, Value.int .i64 y]); refine (kA _ ?_).mono ?_; (first | exact bx | exact bx.alloc bx.size _ | exact (Below.refl _ _).drew | exact ((Below.refl _ _).alloc (Nat.le_refl _) _).drew); rintro _ w2 ⟨rfl, bx⟩)
          | (go_at_call_of 9 (Value.agg #[Value.int .i64 z, Value.int .i64 t]); refine (kB' _ _ (by first | exact bx | exact bx.alloc bx.size _ | exact (Below.refl _ _).drew | exact ((Below.refl _ _).alloc (Nat.le_refl _) _).drew) (by first | exact hN | exact Blk.new _ _ _ | exact (Blk.new _ _ _).drew) (by first | exact hgN | exact bx.size | exact Nat.le_refl _)).mono ?_; rintro _ w2 ⟨rfl, bx, hN, hgN, ⟨n1, n2, n3, n4⟩, n5⟩)
          | (go_at_call_of 9 (Value.agg #[Value.int .i64 z, Value.int .i64 t]); refine (kB _ ?_).mono ?_; (first | exact bx | exact bx.alloc bx.size _ | exact (Below.refl _ _).drew | exact ((Below.refl _ _).alloc (Nat.le_refl _) _).drew); rintro _ w2 ⟨rfl, bx⟩)
          | (go_at_call 13; refine (kM' _ _ (by first | exact bx | exact bx.alloc bx.size _ | exact (Below.refl _ _).drew | exact ((Below.refl _ _).alloc (Nat.le_refl _) _).drew) (by first | exact hN | exact Blk.new _ _ _ | exact (Blk.new _ _ _).drew) (by first | exact hgN | exact bx.size | exact Nat.le_refl _)).mono ?_; rintro _ w2 ⟨rfl, bx, hN, hgN, ⟨n1, n2, n3, n4⟩, n5⟩)
          | (go_at_call 13; refine (kM _ ?_).mono ?_; (first | exact bx | exact bx.alloc bx.size _ | exact (Below.refl _ _).drew | exact ((Below.refl _ _).alloc (Nat.le_refl _) _).drew); rintro _ w2 ⟨rfl, bx⟩))
      all_goals go_wp2_with fail
      all_goals go_meet
      all_goals first | exact ⟨_, rfl, rfl, hN.set2 _ _, (bx.setCell (p := ⟨_, 0, none⟩) hgN _).setCell (p := ⟨_, 1, none⟩) hgN _, hgN⟩ | exact ⟨_, rfl, rfl, Blk.new _ _ _, bx.alloc bx.size _, bx.size⟩
    case rest =>
      obtain ⟨g9, rfl, rfl, h9, bel3, hg9⟩ := hcut
      have h7' := h7.below bel3 q7
      have m1 : wc.cell? ⟨g7, 0, none⟩ = some (.int .i64 X) := h7'.cell 0
      have m2 : wc.cell? ⟨g7, 1, none⟩ = some (.int .i64 Y) := h7'.cell 1
      have m3 : wc.cell? ⟨g9, 0, none⟩ = some (.int .i64 X) := h9.cell 0
      have m4 : wc.cell? ⟨g9, 1, none⟩ = some (.int .i64 Y) := h9.cell 1
      have bel4 := bthen bel2 bel3 bel2.size
      clear kA kB kM kA' kB' kM' KS l1 l2 l3 l4 hA hC
      go_wp2_with fail
      apply Calls.mono
      · with_reducible exact eqFraction_any _ _ _ _ true E1.out _
      rintro _ w9 ⟨rfl, hb_w9⟩
      have bel5 := bthen bel4 hb_w9 bel4.size
      go_wp2
      go_ret
      exact ⟨rfl, bel5⟩
set_option maxRecDepth 100000 in
theorem lifted_FnExactCommonAncestor (os : Os) (started : os.Started) (H : Type) (enc : TypeId × Value → H) :
    ReturnsInHanded {} Try.checked os 4 .any (Rows.fnExactCommonAncestorSpec.pre6 enc Try.prog Try.f4 Rows.fnExactCommonAncestorRow.domain false) (Rows.fnExactCommonAncestorSpec.post enc Try.prog Try.f4 false true false false) := by
  refine returnsInHanded_of_change (C := Try.checked) own started (by kernel_rfl) Try.func4
    (ChangeSpec.witness6 (enc := enc) (C := Try.checked) false ⟨#[], #[.agg #[.int .i64 0, .int .i64 0], .agg #[.int .i64 0, .int .i64 0]], []⟩ 8 (by kernel_rfl) (by kernel_rfl) (by kernel_rfl) (by kernel_rfl)) ?_
  intro W base args ds gs before hval0 hW hcnd _
  have hval : ∀ (j : Nat) t v, Try.f4.params[j]? = some t → args[j]? = some v → Value.okWide Try.prog W .any base t v := hval0
  have hW' := hW
  obtain ⟨p, q, hA0, hV, rfl, hfz, hnd⟩ := hW
  have hA : DataW.TrodAll enc Try.prog W 0 (fun _ => true) true Try.f4.params.toList args.toList ds p := hA0
  rw [Try.params4] at hA hval
  obtain ⟨v0, vs0, d0, ds0, p0, q0, hargs, rfl, rfl, h0, r0⟩ := trodAll_cons hA
  obtain ⟨v1, vs1, d1, ds1, p1, q1, rfl, rfl, rfl, h1, r1⟩ := trodAll_cons r0
  obtain ⟨rfl, rfl, rfl⟩ := trodAll_nil r1
  obtain rfl : args = #[v0, v1] := by cases args; simp_all
  obtain ⟨rfl, rfl⟩ := trodVars_none hV
  have k0 := h0
  have lt0 : ∀ x ∈ p0, x.block < W.heap.size := by obtain ⟨m, hm⟩ := k0; exact DataW.trod_lt m _ _ _ hm
  obtain ⟨c0_0, c0_1, y0_0, y0_1, m0, rfl, rfl, rfl, g0_0, g0_1⟩ := open_agg2 Try.underlying23 (by kernel_rfl) (by kernel_rfl) (hval 0 23 v0 rfl rfl) h0
  obtain ⟨a0_0, e0_0, rfl, wf0_0⟩ := DataW.trod_int Try.underlying2 g0_0
  obtain ⟨a0_1, e0_1, rfl, wf0_1⟩ := DataW.trod_int Try.underlying2 g0_1
  simp at e0_0 e0_1
  subst e0_0 e0_1
  have k1 := h1
  have lt1 : ∀ x ∈ p1, x.block < W.heap.size := by obtain ⟨m, hm⟩ := k1; exact DataW.trod_lt m _ _ _ hm
  obtain ⟨c1_0, c1_1, y1_0, y1_1, m1, rfl, rfl, rfl, g1_0, g1_1⟩ := open_agg2 Try.underlying23 (by kernel_rfl) (by kernel_rfl) (hval 1 23 v1 rfl rfl) h1
  obtain ⟨a1_0, e1_0, rfl, wf1_0⟩ := DataW.trod_int Try.underlying2 g1_0
  obtain ⟨a1_1, e1_1, rfl, wf1_1⟩ := DataW.trod_int Try.underlying2 g1_1
  simp at e1_0 e1_1
  subst e1_0 e1_1
  clear hA0 hval0
  refine (walk_FnExactCommonAncestor a0_0 a0_1 wf0_0 wf0_1 a1_0 a1_1 wf1_0 wf1_1 W).mono fun e W' ⟨he, bel⟩ => ?_
  subst he
  exact ⟨_, rfl, _, _, _, [], _, [], hW', trodAll_mk1 (shut_bool Try.underlying4 _), (trodAll_cons_mk (Below.trod laidOut (by kernel_rfl) (of_decide_eq_true (by kernel_rfl)) k0 bel lt0) (trodAll_cons_mk (Below.trod laidOut (by kernel_rfl) (of_decide_eq_true (by kernel_rfl)) k1 bel lt1) trodAll_mk0)), rfl, bel.frame _, fun h => by cases h⟩
theorem over_FnExactCommonAncestor : Rows.fnExactCommonAncestorRow.holds Try.pinned (OpenSpec.ofChange Rows.fnExactCommonAncestorSpec) :=
  OpenClaim.holds_of_wide 4 Try.f4 rfl rfl rfl rfl rfl rfl rfl ⟨rfl, rfl, rfl, rfl, rfl⟩ rfl rfl rfl rfl rfl (by kernel_rfl) Try.func4 (by kernel_rfl)
    (of_decide_eq_true (by kernel_rfl)) (by unfold Func.isWrapper; first | (rw [if_pos (by decide +kernel)]; kernel_rfl) | (rw [if_neg (by decide +kernel)]; exact ⟨rfl, rfl⟩))
    (fun os started H enc _ => lifted_FnExactCommonAncestor os started H enc)
/-- The statement. -/
theorem holds_FnExactCommonAncestor : Rows.FnExactCommonAncestorSaid := over_FnExactCommonAncestor
#print axioms holds_FnExactCommonAncestor

end Go.Proofs.Ytlmmpeeacjbobaa
