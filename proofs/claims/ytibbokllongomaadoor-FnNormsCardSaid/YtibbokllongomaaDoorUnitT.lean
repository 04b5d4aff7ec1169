/-
  The least solution with 1 or -1: the reference's loop along the terms of the root.
-/
import Derived.Test.YtibbokllongomaaDoorUnitS
namespace Go.Proofs.YtibbokllongomaaDoor
open Go.RowKit

theorem Blk.set4 {w : World} {g : Nat} {t : TypeId} {x y z k : Value} (h : Blk w g t #[x, y, z, k]) (u v a b : Value) : Blk ((((w.setCell ⟨g, 0, none⟩ u).setCell ⟨g, 1, none⟩ v).setCell ⟨g, 2, none⟩ a).setCell ⟨g, 3, none⟩ b) g t #[u, v, a, b] := (((h.set_ 0 u).set_ 1 v).set_ 2 a).set_ 3 b
def UnT (w : World) (d : Int) (l : Nat) (e : Ending) (w' : World) : Prop :=
  ∃ x y : Int, e = .returned (.tuple #[.agg #[.int .i64 x, .int .i64 y], .int .i64 l, .bool (okP d (cvX d l).1.1 (cvX d l).1.2)]) ∧ (okP d (cvX d l).1.1 (cvX d l).1.2 = true → x = (cvX d l).1.1 ∧ y = (cvX d l).1.2) ∧ Below w.heap.size w w'
def UsR (w : World) (d : Int) (l : Nat) (gc : Nat) (k : Nat) (i : Value) (wr : World) : Prop :=
  ∃ t : Nat, t ≤ l ∧ l ≤ t + k ∧ i = .int .i64 t ∧ Blk wr gc 132 #[.int .i64 (cvX d t).1.1, .int .i64 (cvX d t).1.2, .int .i64 (cvX d t).2.1, .int .i64 (cvX d t).2.2] ∧ ((cvX d t).1.1 ≤ 1000000000 ∧ (cvX d t).1.2 ≤ 1000000000 ∧ (cvX d t).2.1 ≤ 1000000000 ∧ (cvX d t).2.2 ≤ 1000000000) ∧ Below w.heap.size w wr
set_option maxRecDepth 100000 in
set_option maxHeartbeats 4000000 in
theorem l09Unit_any (d : Int) (h1 : 2 ≤ d) (h2 : d ≤ 10000) (h3 : sqB d = false) (l : Nat) (hl : wk d (0, 1) = some (1, l + 1)) (w : World) : Calls Tryd.prog 86 #[.int .i64 d] w (UnT w d l) := by
  have R := rootD h1 (by omega) h3
  have hA : ((isq d.toNat : Nat) : Int) < 100 := by
    have q := R.low
    rcases Int.lt_or_le ((isq d.toNat : Nat) : Int) 100 with h | h
    · exact h
    · have := Int.mul_le_mul h h (by omega) (by omega)
      omega
  generalize ((isq d.toNat : Nat) : Int) = a0 at *
  have kW := fun w => l08Walk_any 0 d 1 (root_ok0 R) w
  obtain ⟨_, hl2, hl4, hlast⟩ := root_walk R hl
  have hok : ∀ k, k ≤ l → okP d (cvX d l).1.1 (cvX d l).1.2 = true → okP d (cvX d k).1.1 (cvX d k).1.2 = true := fun k hk h => cv_ok R k l hk h
  have htr := fun k => tr_bd R k
  have hup := fun k => cv_up R k
  have hst : ∀ k, (cvX d (k + 1)).1.1 = trX d k * (cvX d k).1.1 + (cvX d k).2.1 ∧ (cvX d (k + 1)).1.2 = trX d k * (cvX d k).1.2 + (cvX d k).2.2 ∧ (cvX d (k + 1)).2 = (cvX d k).1 := fun k => ⟨rfl, rfl, rfl⟩
  have h00 : cvX d 0 = ((1, 0), (0, 1)) := rfl
  have hgt : ∀ t, t < l + 1 → (tmL d (orb d (0, 1)) (l + 1))[t]? = some (trX d t) := fun t ht => tmL_get d _ _ t ht
  rw [hl] at kW
  have H00 := Lib.hid h00
  have HOK := Lib.hid hok
  have HTR := Lib.hid htr
  have HUP := Lib.hid hup
  have HST := Lib.hid hst
  have HGT := Lib.hid hgt
  clear hl hlast hok htr hup hst h3 R h00 hgt
  go_enter Tryd.func86, Tryd.ntmps86
  go_wp2_with fail
  apply Calls.mono
  · with_reducible exact kW _
  rintro _ w1 ⟨g, n, vs, vt, fr, rfl, hg, hW, hos, hot, hb_w1, hn, hj⟩
  obtain ⟨hnn, rfl⟩ := hj 1 (l + 1) rfl
  subst hnn
  simp only [Option.isSome_some]
  obtain ⟨A, c, rfl, hn1, hc1, _, hr1⟩ := Rd.of_own hot
  rcases hr1 with h | ⟨gt, of, rfl, hgt, hcell⟩
  · omega
  have HCL := Lib.hid hcell
  have hs1 := hb_w1.size
  rw [World.size_alloc] at hs1 hg
  have z0 : w.heap.size < w1.heap.size := by omega
  have hR1 := (Blk.new w 40 #[.int .i64 0, .int .i64 0]).below hb_w1 (by simp)
  have c1 : w1.cell? ⟨g, 1, none⟩ = some (.slice (some ⟨gt, of, none⟩) (l + 1) c) := hW.cell 1
  have c2 : w1.cell? ⟨g, 2, none⟩ = some (.int .i64 ((1 : Nat) : Int)) := hW.cell 2
  have hgw := hW.lt
  clear kW hos hot hj hcell
  go_wp2_with fail
  refine wp_region_calm (by kernel_rfl) (by kernel_rfl) ?_
  repeat (go_big_quiet_step ((fail)))
  refine wpQuiet_nil ?_
  intro w2 hb_w2
  obtain ⟨hc_w2, hf_w2, hs_w2⟩ := bcell hb_w2
  try simp at hs_w2
  have hz_w2_w0 : w.heap.size < w2.heap.size := by omega
  have hy_w2_w0 : w.heap.size ≤ w2.heap.size := by omega
  have hx_w2_w0 : ∀ n : Nat, w.heap.size < w2.heap.size + n := by intro n; omega
  have hv_w2_w0 : ∀ n : Nat, w.heap.size ≤ w2.heap.size + n := by intro n; omega
  have zz2 : w1.heap.size ≤ w2.heap.size := by have := hb_w2.size; omega
  go_wp2_with fail
  apply Calls.mono
  · with_reducible exact l03New_any _
  rintro _ w3 ⟨rfl, hb_w3⟩
  go_wp2_with fail
  have zz3 : w2.heap.size ≤ w3.heap.size := hb_w3.size
  have bel3 : Below w1.heap.size w1 w3 := bthen hb_w2 hb_w3 (by omega)
  have hW3 := hW.below bel3 hgw
  have hR3 := hR1.below bel3 z0
  have hgt3 : gt < w3.heap.size := by omega
  have hg3 : g < w3.heap.size := by omega
  clear hc_w2 hf_w2 c1 c2
  go_loopg [9] l (UsR w3 d l w3.heap.size)
  case atStart =>
    refine ⟨0, by omega, by omega, rfl, ?_, ?_, (Below.refl _ _).alloc (Nat.le_refl _) _⟩
    · rw [H00.out]; exact Blk.new w3 _ _
    · rw [H00.out]; decide
  case round =>
    obtain ⟨t, ht, htk, rfl, hB, ⟨b1, b2, b3, b4⟩, hbw⟩ := hrel
    have hs := hbw.size
    have hR4 := hR3.below hbw (by omega)
    have lB := hB.lt
    by_cases htl : t < l
    · obtain ⟨e1, e2, e3⟩ := HST.out t
      obtain ⟨t1, t2⟩ := HTR.out t
      obtain ⟨p1, p2, p3, p4, p5, p6⟩ := HUP.out t
      obtain ⟨q1, q2, _⟩ := HUP.out (t + 1)
      have k1 : wr.cell? ⟨gt, of + t, none⟩ = some (.int .i64 (trX d t)) := (hbw.cell (p := ⟨gt, of + t, none⟩) hgt3).trans ((bel3.cell (p := ⟨gt, of + t, none⟩) hgt).trans (HCL.out t _ (ints_get (HGT.out t (by omega)))))
      have k2 : wr.cell? ⟨g, 1, none⟩ = some (.slice (some ⟨gt, of, none⟩) (l + 1) c) := (hW3.below hbw hg3).cell 1
      have htl' : (t : Int) < (l : Int) := by omega
      have htl2 : (t : Int) < (l : Int) + 1 := by omega
      have hNOK : ¬ ((cvX d (t + 1)).1.1 ≤ 1000000000 ∧ (cvX d (t + 1)).1.2 ≤ 1000000000) → okP d (cvX d l).1.1 (cvX d l).1.2 = false := by
        intro hn
        cases hk : okP d (cvX d l).1.1 (cvX d l).1.2
        · rfl
        · have := HOK.out (t + 1) (by omega) hk
          obtain ⟨⟨_, u2⟩, ⟨_, u4⟩, _⟩ := okP_bd h1 h2 this
          exact absurd ⟨u2, u4⟩ hn
      have kS := fun b hb w => l08Step_any (cvX d t).1.1 (cvX d t).1.2 (cvX d t).2.1 (cvX d t).2.2 (trX d t) (by omega) b1 p2 b2 p3 b3 p4 b4 (by omega) (by omega) _ _ e1.symm e2.symm b hb w
      have hdec : (decide ((((cvX d (t + 1)).1.1).natAbs : Int) ≤ 1000000000) && decide ((((cvX d (t + 1)).1.2).natAbs : Int) ≤ 1000000000)) = decide ((cvX d (t + 1)).1.1 ≤ 1000000000 ∧ (cvX d (t + 1)).1.2 ≤ 1000000000) := by
        rw [Int.natAbs_of_nonneg (show 0 ≤ (cvX d (t + 1)).1.1 by omega), Int.natAbs_of_nonneg q2]
        simp
      have HE3 := Lib.hid e3
      clear e1 e2 e3
      have hcv1 : (cvX d (t + 1)).2.1 = (cvX d t).1.1 := by rw [HE3.out]
      have hcv2 : (cvX d (t + 1)).2.2 = (cvX d t).1.2 := by rw [HE3.out]
      have HV1 := Lib.hid hcv1
      have HV2 := Lib.hid hcv2
      clear hcv1 hcv2 HE3
      generalize hx' : (cvX d (t + 1)).1.1 = x' at *
      generalize hy' : (cvX d (t + 1)).1.2 = y' at *
      generalize hx : (cvX d t).1.1 = x at *
      generalize hy : (cvX d t).1.2 = y at *
      generalize hu : (cvX d t).2.1 = u at *
      generalize hv : (cvX d t).2.2 = v at *
      generalize trX d t = s at *
      have HX' := Lib.hid hx'
      have HY' := Lib.hid hy'
      clear hx' hy' hx hy hu hv p5 p6
      have hgr : g < wr.heap.size := by omega
      have hgtr : gt < wr.heap.size := by omega
      have KS : ∀ wx, Below wr.heap.size wr wx → wx.cell? ⟨w3.heap.size, 0, none⟩ = some (.int .i64 x) ∧ wx.cell? ⟨w3.heap.size, 1, none⟩ = some (.int .i64 y) ∧ wx.cell? ⟨w3.heap.size, 2, none⟩ = some (.int .i64 u) ∧ wx.cell? ⟨w3.heap.size, 3, none⟩ = some (.int .i64 v) ∧ wx.cell? ⟨g, 1, none⟩ = some (.slice (some ⟨gt, of, none⟩) (l + 1) c) ∧ wx.cell? ⟨gt, of + t, none⟩ = some (.int .i64 s) := fun wx hb => by
        have hb1 := hB.below hb lB
        exact ⟨hb1.cell 0, hb1.cell 1, hb1.cell 2, hb1.cell 3, (hb.cell (p := ⟨g, 1, none⟩) hgr).trans k2, (hb.cell (p := ⟨gt, of + t, none⟩) hgtr).trans k1⟩
      have KN : ∀ w5, Below ((wr.alloc (.cells #[.int .i64 0, .int .i64 0, .int .i64 0, .int .i64 0] 132)).drew).heap.size ((wr.alloc (.cells #[.int .i64 0, .int .i64 0, .int .i64 0, .int .i64 0] 132)).drew) w5 → Below wr.heap.size wr w5 ∧ (w5.cell? ⟨wr.heap.size, 0, none⟩ = some (.int .i64 0) ∧ w5.cell? ⟨wr.heap.size, 1, none⟩ = some (.int .i64 0) ∧ w5.cell? ⟨wr.heap.size, 2, none⟩ = some (.int .i64 0) ∧ w5.cell? ⟨wr.heap.size, 3, none⟩ = some (.int .i64 0)) ∧ (w5.frozen? ⟨wr.heap.size, 0, none⟩ = false ∧ w5.frozen? ⟨wr.heap.size, 1, none⟩ = false ∧ w5.frozen? ⟨wr.heap.size, 2, none⟩ = false ∧ w5.frozen? ⟨wr.heap.size, 3, none⟩ = false) ∧ wr.heap.size < w5.heap.size := fun w5 hb => by
        have hn := (Blk.new wr 132 #[.int .i64 0, .int .i64 0, .int .i64 0, .int .i64 0]).drew.below hb (by show wr.heap.size < (wr.alloc _).heap.size; rw [World.size_alloc]; omega)
        exact ⟨bthen ((Below.refl _ _).alloc (Nat.le_refl _) _).drew hb (by show wr.heap.size ≤ (wr.alloc _).heap.size; rw [World.size_alloc]; omega), ⟨hn.cell 0, hn.cell 1, hn.cell 2, hn.cell 3⟩, ⟨hn.frozen 0, hn.frozen 1, hn.frozen 2, hn.frozen 3⟩, hn.lt⟩
      obtain ⟨k3, k4, k5, k6, _, _⟩ := KS wr (Below.refl _ _)
      cases hdd : decide (x' ≤ 1000000000 ∧ y' ≤ 1000000000)
      · have hko := hNOK (of_decide_eq_false hdd)
        have kSf := fun w => kS false (hdec.trans hdd) w
        have kSA := (kSf ((wr.alloc (.cells #[.int .i64 0, .int .i64 0, .int .i64 0, .int .i64 0] 132)).drew)).mono (fun e w5 h => (⟨h.1, KN w5 h.2⟩ : _ ∧ _))
        have kSB := (kSf wr.drew).mono (fun e w5 h => (⟨h.1, bthen (Below.refl _ _).drew h.2 (Nat.le_refl _)⟩ : _ ∧ Below wr.heap.size wr w5))
        unfold UnT
        rw [hko]
        clear kS kSf hdec hdd hNOK hko HX' HY' HV1 HV2
        go_wp2_with fail
        first | go_region_held3 (fun wx => wx.cell? ⟨w3.heap.size, 0, none⟩ = some (.int .i64 x) ∧ wx.cell? ⟨w3.heap.size, 1, none⟩ = some (.int .i64 y) ∧ wx.cell? ⟨w3.heap.size, 2, none⟩ = some (.int .i64 u) ∧ wx.cell? ⟨w3.heap.size, 3, none⟩ = some (.int .i64 v) ∧ wx.cell? ⟨g, 1, none⟩ = some (.slice (some ⟨gt, of, none⟩) (l + 1) c) ∧ wx.cell? ⟨gt, of + t, none⟩ = some (.int .i64 s))
          (first | exact KS _ (Below.refl _ _).drew | exact KS _ ((Below.refl _ _).alloc (Nat.le_refl _) _).drew | exact KS _ bx_w5 | exact KS _ ((((bx_w5.setCell (p := ⟨wr.heap.size, 0, none⟩) (Nat.le_refl _) _).setCell (p := ⟨wr.heap.size, 1, none⟩) (Nat.le_refl _) _).setCell (p := ⟨wr.heap.size, 2, none⟩) (Nat.le_refl _) _).setCell (p := ⟨wr.heap.size, 3, none⟩) (Nat.le_refl _) _) | exact KS _ (bx_w5.alloc bx_w5.size _) | go_keep)
          (first
            | (go_at_call 107; with_reducible refine kSA.mono ?_; rintro _ w5 ⟨rfl, bx_w5, ⟨n1, n2, n3, n4⟩, ⟨n5, n6, n7, n8⟩, n9⟩)
            | (go_at_call 107; with_reducible refine kSB.mono ?_; rintro _ w5 ⟨rfl, bx_w5⟩)) | fail
        all_goals
          have s5 := bx_w5.size
          have hR5 := hR4.below bx_w5 (by omega)
          have hB5 := hB.below bx_w5 lB
          have v1 : w5.cell? ⟨w.heap.size, 0, none⟩ = some (.int .i64 0) := hR5.cell 0
          have v2 : w5.cell? ⟨w.heap.size, 1, none⟩ = some (.int .i64 0) := hR5.cell 1
          have v3 : w5.frozen? ⟨w.heap.size, 0, none⟩ = false := hR5.frozen 0
          have v4 : w5.frozen? ⟨w.heap.size, 1, none⟩ = false := hR5.frozen 1
          have v5 : w.heap.size < w5.heap.size := by omega
          have v6 : w.heap.size ≠ wr.heap.size := by omega
          have v7 : wr.heap.size ≠ w.heap.size := by omega
          have v8 : w.heap.size ≠ w5.heap.size := by omega
          have bel5 : Below w.heap.size w w5 := by have := hb_w1; exact bthen (bthen (by repeat' (first | (with_reducible exact Below.refl _ _) | (with_reducible assumption) | (with_reducible refine Below.alloc ?_ ?_ _) | (with_reducible refine Below.drew ?_) | (with_reducible refine bdrewN ?_ _) | (with_reducible refine Below.setCell ?_ ?_ _) | (with_reducible refine bthen ?_ (by assumption) ?_) | go_size)) (bthen bel3 (bthen hbw bx_w5 (by omega)) (by omega)) (by omega)) (Below.refl _ _) (by omega)
        all_goals go_wp2
        all_goals refine bodyPost_ret (by simp [results, Tryd.results86, go_sem, *]; try rfl) rfl ?_
        all_goals refine ⟨0, 0, rfl, fun h => absurd h (by decide), ?_⟩
        all_goals repeat' (first | (with_reducible exact Below.refl _ _) | (with_reducible assumption) | (with_reducible refine Below.alloc ?_ ?_ _) | (with_reducible refine Below.drew ?_) | (with_reducible refine bdrewN ?_ _) | (with_reducible refine Below.setCell ?_ ?_ _) | (with_reducible refine bthen ?_ (by assumption) ?_) | go_size)
      · obtain ⟨dx, dy⟩ := of_decide_eq_true hdd
        have kSt := fun w => kS true (hdec.trans hdd) w
        have kSA := (kSt ((wr.alloc (.cells #[.int .i64 0, .int .i64 0, .int .i64 0, .int .i64 0] 132)).drew)).mono (fun e w5 h => (⟨h.1, KN w5 h.2⟩ : _ ∧ _))
        have kSB := (kSt wr.drew).mono (fun e w5 h => (⟨h.1, bthen (Below.refl _ _).drew h.2 (Nat.le_refl _)⟩ : _ ∧ Below wr.heap.size wr w5))
        clear kS kSt hdec hdd hNOK
        go_wp2_with fail
        first | go_region_held3 (fun wx => wx.cell? ⟨w3.heap.size, 0, none⟩ = some (.int .i64 x) ∧ wx.cell? ⟨w3.heap.size, 1, none⟩ = some (.int .i64 y) ∧ wx.cell? ⟨w3.heap.size, 2, none⟩ = some (.int .i64 u) ∧ wx.cell? ⟨w3.heap.size, 3, none⟩ = some (.int .i64 v) ∧ wx.cell? ⟨g, 1, none⟩ = some (.slice (some ⟨gt, of, none⟩) (l + 1) c) ∧ wx.cell? ⟨gt, of + t, none⟩ = some (.int .i64 s))
          (first | exact KS _ (Below.refl _ _).drew | exact KS _ ((Below.refl _ _).alloc (Nat.le_refl _) _).drew | exact KS _ bx_w5 | exact KS _ ((((bx_w5.setCell (p := ⟨wr.heap.size, 0, none⟩) (Nat.le_refl _) _).setCell (p := ⟨wr.heap.size, 1, none⟩) (Nat.le_refl _) _).setCell (p := ⟨wr.heap.size, 2, none⟩) (Nat.le_refl _) _).setCell (p := ⟨wr.heap.size, 3, none⟩) (Nat.le_refl _) _) | exact KS _ (bx_w5.alloc bx_w5.size _) | go_keep)
          (first
            | (go_at_call 107; with_reducible refine kSA.mono ?_; rintro _ w5 ⟨rfl, bx_w5, ⟨n1, n2, n3, n4⟩, ⟨n5, n6, n7, n8⟩, n9⟩)
            | (go_at_call 107; with_reducible refine kSB.mono ?_; rintro _ w5 ⟨rfl, bx_w5⟩)) | fail
        all_goals
          have s5 := bx_w5.size
          have hR5 := hR4.below bx_w5 (by omega)
          have hB5 := hB.below bx_w5 lB
          have v1 : w5.cell? ⟨w.heap.size, 0, none⟩ = some (.int .i64 0) := hR5.cell 0
          have v2 : w5.cell? ⟨w.heap.size, 1, none⟩ = some (.int .i64 0) := hR5.cell 1
          have v3 : w5.frozen? ⟨w.heap.size, 0, none⟩ = false := hR5.frozen 0
          have v4 : w5.frozen? ⟨w.heap.size, 1, none⟩ = false := hR5.frozen 1
          have v5 : w.heap.size < w5.heap.size := by omega
          have v6 : w.heap.size ≠ wr.heap.size := by omega
          have v7 : wr.heap.size ≠ w.heap.size := by omega
          have v8 : w.heap.size ≠ w5.heap.size := by omega
          have bel5 : Below w.heap.size w w5 := by have := hb_w1; exact bthen (bthen (by repeat' (first | (with_reducible exact Below.refl _ _) | (with_reducible assumption) | (with_reducible refine Below.alloc ?_ ?_ _) | (with_reducible refine Below.drew ?_) | (with_reducible refine bdrewN ?_ _) | (with_reducible refine Below.setCell ?_ ?_ _) | (with_reducible refine bthen ?_ (by assumption) ?_) | go_size)) (bthen bel3 (bthen hbw bx_w5 (by omega)) (by omega)) (by omega)) (Below.refl _ _) (by omega)
        all_goals
          have k3' : w5.cell? ⟨w3.heap.size, 0, none⟩ = some (.int .i64 x) := hB5.cell 0
          have k4' : w5.cell? ⟨w3.heap.size, 1, none⟩ = some (.int .i64 y) := hB5.cell 1
          have k5' : w5.cell? ⟨w3.heap.size, 2, none⟩ = some (.int .i64 u) := hB5.cell 2
          have k6' : w5.cell? ⟨w3.heap.size, 3, none⟩ = some (.int .i64 v) := hB5.cell 3
          have o3 : w5.frozen? ⟨w3.heap.size, 0, none⟩ = false := hB5.frozen 0
          have o4 : w5.frozen? ⟨w3.heap.size, 1, none⟩ = false := hB5.frozen 1
          have o5 : w5.frozen? ⟨w3.heap.size, 2, none⟩ = false := hB5.frozen 2
          have o6 : w5.frozen? ⟨w3.heap.size, 3, none⟩ = false := hB5.frozen 3
          have o7 : w3.heap.size < w5.heap.size := by omega
          have o8 : w3.heap.size ≠ wr.heap.size := by omega
          have o9 : wr.heap.size ≠ w3.heap.size := by omega
        all_goals go_wp2
        · go_roundg (gk - 1)
          case measure => omega
          case rel =>
            refine ⟨t + 1, by omega, by omega, by go_num, ?_, ?_, ?_⟩
            · rw [HX'.out, HY'.out, HV1.out, HV2.out]; exact (hB5.set4 _ _ _ _).alloc _
            · rw [HX'.out, HY'.out, HV1.out, HV2.out]; exact ⟨dx, dy, b1, b2⟩
            · have bel6 := bthen hbw bx_w5 (by omega)
              repeat' (first | (with_reducible exact Below.refl _ _) | (with_reducible assumption) | (with_reducible refine Below.alloc ?_ ?_ _) | (with_reducible refine Below.drew ?_) | (with_reducible refine bdrewN ?_ _) | (with_reducible refine Below.setCell ?_ ?_ _) | (with_reducible refine bthen ?_ (by assumption) ?_) | go_size)
        · go_roundg (gk - 1)
          case measure => omega
          case rel =>
            refine ⟨t + 1, by omega, by omega, by go_num, ?_, ?_, ?_⟩
            · rw [HX'.out, HY'.out, HV1.out, HV2.out]; exact ((((hB5.far (p := ⟨wr.heap.size, 0, none⟩) o8 _).far (p := ⟨wr.heap.size, 1, none⟩) o8 _).far (p := ⟨wr.heap.size, 2, none⟩) o8 _).far (p := ⟨wr.heap.size, 3, none⟩) o8 _).set4 _ _ _ _
            · rw [HX'.out, HY'.out, HV1.out, HV2.out]; exact ⟨dx, dy, b1, b2⟩
            · have bel6 := bthen hbw bx_w5 (by omega)
              repeat' (first | (with_reducible exact Below.refl _ _) | (with_reducible assumption) | (with_reducible refine Below.alloc ?_ ?_ _) | (with_reducible refine Below.drew ?_) | (with_reducible refine bdrewN ?_ _) | (with_reducible refine Below.setCell ?_ ?_ _) | (with_reducible refine bthen ?_ (by assumption) ?_) | go_size)
    · obtain rfl : t = l := by omega
      have kO := fun w => l09Ok_any d (cvX d t).1.1 (cvX d t).1.2 (by omega) h2 _ rfl w
      clear HOK HTR HUP HST HGT HCL H00
      generalize hbk : okP d (cvX d t).1.1 (cvX d t).1.2 = bk at *
      generalize hx : (cvX d t).1.1 = x at *
      generalize hy : (cvX d t).1.2 = y at *
      have HBK := Lib.hid hbk
      have HX := Lib.hid hx
      have HY := Lib.hid hy
      clear hbk hx hy
      generalize (cvX d t).2.1 = u at *
      generalize (cvX d t).2.2 = v at *
      have k3 : wr.cell? ⟨w3.heap.size, 0, none⟩ = some (.int .i64 x) := hB.cell 0
      have k4 : wr.cell? ⟨w3.heap.size, 1, none⟩ = some (.int .i64 y) := hB.cell 1
      have v1 : wr.cell? ⟨w.heap.size, 0, none⟩ = some (.int .i64 0) := hR4.cell 0
      have v2 : wr.cell? ⟨w.heap.size, 1, none⟩ = some (.int .i64 0) := hR4.cell 1
      have v3 : wr.frozen? ⟨w.heap.size, 0, none⟩ = false := hR4.frozen 0
      have v4 : wr.frozen? ⟨w.heap.size, 1, none⟩ = false := hR4.frozen 1
      have v5 : w.heap.size < wr.heap.size := by omega
      have v6 : ∀ n : Nat, w.heap.size < wr.heap.size + n := by intro n; omega
      have bel5 : Below w.heap.size w wr := by have := hb_w1; exact bthen (bthen (by repeat' (first | (with_reducible exact Below.refl _ _) | (with_reducible assumption) | (with_reducible refine Below.alloc ?_ ?_ _) | (with_reducible refine Below.drew ?_) | (with_reducible refine bdrewN ?_ _) | (with_reducible refine Below.setCell ?_ ?_ _) | (with_reducible refine bthen ?_ (by assumption) ?_) | go_size)) (bthen bel3 hbw (by omega)) (by omega)) (Below.refl _ _) (by omega)
      go_wp2_with fail
      go_region_with (go_at_call 108; refine (kO _).mono ?_; rintro _ w6 ⟨rfl, hb_w6⟩; have hc_w6 := (bcell hb_w6).1; have hf_w6 := (bcell hb_w6).2.1; have z6 : w.heap.size < w6.heap.size := Nat.lt_of_lt_of_le (Nat.lt_of_lt_of_le v5 (by first | (simp; done) | (simp; omega))) hb_w6.size)
      all_goals go_wp2
      all_goals refine bodyPost_ret (by simp [results, Tryd.results86, go_sem, *]; try rfl) rfl ?_
      all_goals refine ⟨x, y, by rw [HX.out, HY.out, HBK.out], fun _ => ⟨HX.out.symm, HY.out.symm⟩, ?_⟩
      all_goals repeat' (first | (with_reducible exact Below.refl _ _) | (with_reducible assumption) | (with_reducible refine Below.alloc ?_ ?_ _) | (with_reducible refine Below.drew ?_) | (with_reducible refine bdrewN ?_ _) | (with_reducible refine Below.setCell ?_ ?_ _) | (with_reducible refine bthen ?_ (by assumption) ?_) | go_size)
end Go.Proofs.YtibbokllongomaaDoor
