/-
  The reference's matrix of a list of terms.
-/
import Derived.Test.YtkjakgemjhbfoaaSk
namespace Go.Proofs.Ytkjakgemjhbfoaa
open Go.RowKit

def MxP (w : World) (zs : List Int) (e : Ending) (w' : World) : Prop :=
  ∃ p q pp qq : Int, e = .returned (.tuple #[.agg #[.int .i64 p, .int .i64 q, .int .i64 pp, .int .i64 qq], .bool (fitL zs)]) ∧ (fitL zs = true → p = (mtx zs).1.1 ∧ q = (mtx zs).1.2 ∧ pp = (mtx zs).2.1 ∧ qq = (mtx zs).2.2) ∧ Below w.heap.size w w'
def MxR (w : World) (zs : List Int) (n B : Nat) (k : Nat) (i : Value) (wr : World) : Prop :=
  ∃ j : Nat, j ≤ n ∧ n ≤ j + k ∧ i = .int .i64 j ∧ fitN zs j = true ∧ Blk wr B 104 #[.int .i64 (mtx (zs.take j)).1.1, .int .i64 (mtx (zs.take j)).1.2, .int .i64 (mtx (zs.take j)).2.1, .int .i64 (mtx (zs.take j)).2.2] ∧
    Blk wr w.heap.size 104 #[.int .i64 0, .int .i64 0, .int .i64 0, .int .i64 0] ∧ Below w.heap.size w wr
theorem mx_set4 {w : World} {g : Nat} {t : TypeId} {x y z k : Value} (h : Blk w g t #[x, y, z, k]) (u v a b : Value) : Blk ((((w.setCell ⟨g, 0, none⟩ u).setCell ⟨g, 1, none⟩ v).setCell ⟨g, 2, none⟩ a).setCell ⟨g, 3, none⟩ b) g t #[u, v, a, b] := (((h.set_ 0 u).set_ 1 v).set_ 2 a).set_ 3 b
set_option maxRecDepth 100000 in
set_option maxHeartbeats 4000000 in
theorem l08Matrix_any (v : Value) (n : Nat) (zs : List Int) (w : World) (hv : Rd w 1 v n (ints zs)) (hn : n ≤ 4194304) (ht : ∀ t ∈ zs, -1000000000 ≤ t ∧ t ≤ 1000000000) : Calls Try.prog 74 #[v] w (MxP w zs) := by
  have hl : zs.length = n := by have := (rd_len hv).1; rw [ints_len] at this; omega
  obtain ⟨A, c, rfl, hn1, hc1, _, hr1⟩ := hv
  have R1 := Lib.hid hr1
  have HL := Lib.hid hl
  have HT := Lib.hid ht
  clear hr1 hl ht
  go_enter Try.func74, Try.ntmps74
  go_wp2_with fail
  apply Calls.mono
  · with_reducible exact l03New_any _
  rintro _ w1 ⟨rfl, hb_w1⟩
  obtain ⟨hc_w1, hf_w1, hs_w1⟩ := bcell hb_w1
  try simp at hs_w1
  have hz_w1_w0 : w.heap.size < w1.heap.size := by omega
  have hy_w1_w0 : w.heap.size ≤ w1.heap.size := by omega
  have hx_w1_w0 : ∀ n : Nat, w.heap.size < w1.heap.size + n := by intro n; omega
  have hv_w1_w0 : ∀ n : Nat, w.heap.size ≤ w1.heap.size + n := by intro n; omega
  have hB1 := (Blk.new w 104 #[.int .i64 0, .int .i64 0, .int .i64 0, .int .i64 0]).below hb_w1 (by rw [World.size_alloc]; omega)
  have bel1 : Below w.heap.size w w1 := bthen ((Below.refl _ _).alloc (Nat.le_refl _) _) hb_w1 (by rw [World.size_alloc]; omega)
  have q1 := hB1.lt
  have G1 := Lib.hid hB1
  have G2 := Lib.hid bel1
  clear hB1 bel1 hb_w1 hc_w1 hf_w1
  go_wp2_with fail
  go_loopg [5] n (fun k i wr => MxR w zs n w1.heap.size k i wr)
  case atStart =>
    exact ⟨0, by omega, by omega, rfl, rfl, Blk.new w1 _ _, G1.out.alloc _, G2.out.alloc (by omega) _⟩
  case round =>
    obtain ⟨j, hj1, hj2, rfl, hfit, hB, hR, hbw⟩ := hrel
    have lB := hB.lt
    have lR := hR.lt
    have qr := hbw.size
    have r0 : wr.cell? ⟨w.heap.size, 0, none⟩ = some (.int .i64 0) := hR.cell 0
    have r1 : wr.cell? ⟨w.heap.size, 1, none⟩ = some (.int .i64 0) := hR.cell 1
    have r2 : wr.cell? ⟨w.heap.size, 2, none⟩ = some (.int .i64 0) := hR.cell 2
    have r3 : wr.cell? ⟨w.heap.size, 3, none⟩ = some (.int .i64 0) := hR.cell 3
    have g0 : wr.frozen? ⟨w.heap.size, 0, none⟩ = false := hR.frozen 0
    have g1 : wr.frozen? ⟨w.heap.size, 1, none⟩ = false := hR.frozen 1
    have g2 : wr.frozen? ⟨w.heap.size, 2, none⟩ = false := hR.frozen 2
    have g3 : wr.frozen? ⟨w.heap.size, 3, none⟩ = false := hR.frozen 3
    have k3 : wr.cell? ⟨w1.heap.size, 0, none⟩ = some (.int .i64 (mtx (zs.take j)).1.1) := hB.cell 0
    have k4 : wr.cell? ⟨w1.heap.size, 1, none⟩ = some (.int .i64 (mtx (zs.take j)).1.2) := hB.cell 1
    have k5 : wr.cell? ⟨w1.heap.size, 2, none⟩ = some (.int .i64 (mtx (zs.take j)).2.1) := hB.cell 2
    have k6 : wr.cell? ⟨w1.heap.size, 3, none⟩ = some (.int .i64 (mtx (zs.take j)).2.2) := hB.cell 3
    by_cases hjn : j < n
    · obtain ⟨t, hz⟩ := get_ex (l := zs) (k := j) (by have := HL.out; omega)
      rcases R1.out with h0 | ⟨g, o, rfl, hg, hcell⟩
      · omega
      have hgr : g < wr.heap.size := by omega
      have kt : wr.cell? ⟨g, o + j, none⟩ = some (.int .i64 t) := (hbw.cell (p := ⟨g, o + j, none⟩) hg).trans (hcell j _ (ints_get hz))
      have hjn' : (j : Int) < (n : Int) := by omega
      obtain ⟨t1, t2⟩ := HT.out t (List.mem_of_getElem? hz)
      obtain ⟨⟨b1, b2⟩, ⟨b3, b4⟩, ⟨b5, b6⟩, ⟨b7, b8⟩⟩ := cfit_bd (fit_last zs) hfit (by rw [HL.out]; omega)
      have hM : mtx (zs.take (j + 1)) = mtS (mtx (zs.take j)) t := by rw [take_snoc hz, mtx_snoc]
      have hM2 : (mtx (zs.take (j + 1))).1.1 = t * (mtx (zs.take j)).1.1 + (mtx (zs.take j)).2.1 ∧ (mtx (zs.take (j + 1))).1.2 = t * (mtx (zs.take j)).1.2 + (mtx (zs.take j)).2.2 ∧ (mtx (zs.take (j + 1))).2.1 = (mtx (zs.take j)).1.1 ∧ (mtx (zs.take (j + 1))).2.2 = (mtx (zs.take j)).1.2 := by rw [hM]; exact ⟨rfl, rfl, rfl, rfl⟩
      have hfs : fitN zs (j + 1) = (fitN zs j && fitE (mtx (zs.take (j + 1)))) := rfl
      rw [hfit, Bool.true_and] at hfs
      have hbad : fitE (mtx (zs.take (j + 1))) = false → fitL zs = false := fun e => fitN_bad e (by rw [HL.out]; exact hjn)
      rw [← hfs] at hbad
      have hdec : (decide ((((mtx (zs.take (j + 1))).1.1).natAbs : Int) ≤ 1000000000) && decide ((((mtx (zs.take (j + 1))).1.2).natAbs : Int) ≤ 1000000000)) = fitN zs (j + 1) := by
        rw [hfs]
        unfold fitE inB
        rw [← Bool.decide_and, ← Bool.decide_and, ← Bool.decide_and, ← Bool.decide_and]
        exact decide_eq_decide.2 (by omega)
      have kS := fun b hb w => l08Step_z (mtx (zs.take j)).1.1 (mtx (zs.take j)).1.2 (mtx (zs.take j)).2.1 (mtx (zs.take j)).2.2 t b1 b2 b3 b4 b5 b6 b7 b8 t1 t2 _ _ hM2.1.symm hM2.2.1.symm b hb w
      have HM := Lib.hid hM2
      clear hz hcell R1 hM hM2 hfs hfit
      generalize hx' : (mtx (zs.take (j + 1))).1.1 = x' at *
      generalize hy' : (mtx (zs.take (j + 1))).1.2 = y' at *
      generalize (mtx (zs.take j)).1.1 = x at *
      generalize (mtx (zs.take j)).1.2 = y at *
      generalize (mtx (zs.take j)).2.1 = u at *
      generalize (mtx (zs.take j)).2.2 = v at *
      have HX' := Lib.hid hx'
      have HY' := Lib.hid hy'
      clear hx' hy'
      have KS : ∀ wx, Below wr.heap.size wr wx → wx.cell? ⟨w1.heap.size, 0, none⟩ = some (.int .i64 x) ∧ wx.cell? ⟨w1.heap.size, 1, none⟩ = some (.int .i64 y) ∧ wx.cell? ⟨w1.heap.size, 2, none⟩ = some (.int .i64 u) ∧ wx.cell? ⟨w1.heap.size, 3, none⟩ = some (.int .i64 v) ∧ wx.cell? ⟨g, o + j, none⟩ = some (.int .i64 t) := fun wx hb => by
        have hb1 := hB.below hb lB
        exact ⟨hb1.cell 0, hb1.cell 1, hb1.cell 2, hb1.cell 3, (hb.cell (p := ⟨g, o + j, none⟩) hgr).trans kt⟩
      have KN : ∀ w5, Below ((wr.alloc (.cells #[.int .i64 0, .int .i64 0, .int .i64 0, .int .i64 0] 104)).drew).heap.size ((wr.alloc (.cells #[.int .i64 0, .int .i64 0, .int .i64 0, .int .i64 0] 104)).drew) w5 → Below wr.heap.size wr w5 ∧ (w5.cell? ⟨wr.heap.size, 0, none⟩ = some (.int .i64 0) ∧ w5.cell? ⟨wr.heap.size, 1, none⟩ = some (.int .i64 0) ∧ w5.cell? ⟨wr.heap.size, 2, none⟩ = some (.int .i64 0) ∧ w5.cell? ⟨wr.heap.size, 3, none⟩ = some (.int .i64 0)) ∧ (w5.frozen? ⟨wr.heap.size, 0, none⟩ = false ∧ w5.frozen? ⟨wr.heap.size, 1, none⟩ = false ∧ w5.frozen? ⟨wr.heap.size, 2, none⟩ = false ∧ w5.frozen? ⟨wr.heap.size, 3, none⟩ = false) ∧ wr.heap.size < w5.heap.size := fun w5 hb => by
        have hn := (Blk.new wr 104 #[.int .i64 0, .int .i64 0, .int .i64 0, .int .i64 0]).drew.below hb (by show wr.heap.size < (wr.alloc _).heap.size; rw [World.size_alloc]; omega)
        exact ⟨bthen ((Below.refl _ _).alloc (Nat.le_refl _) _).drew hb (by show wr.heap.size ≤ (wr.alloc _).heap.size; rw [World.size_alloc]; omega), ⟨hn.cell 0, hn.cell 1, hn.cell 2, hn.cell 3⟩, ⟨hn.frozen 0, hn.frozen 1, hn.frozen 2, hn.frozen 3⟩, hn.lt⟩
      have HR := Lib.hid hR
      have HB := Lib.hid hB
      have HBW := Lib.hid hbw
      clear hB hR
      cases hdd : fitN zs (j + 1)
      · have hko := hbad hdd
        have kSf := fun w => kS false (hdec.trans hdd) w
        have kSA := (kSf ((wr.alloc (.cells #[.int .i64 0, .int .i64 0, .int .i64 0, .int .i64 0] 104)).drew)).mono (fun e w5 h => (⟨h.1, KN w5 h.2⟩ : _ ∧ _))
        have kSB := (kSf wr.drew).mono (fun e w5 h => (⟨h.1, bthen (Below.refl _ _).drew h.2 (Nat.le_refl _)⟩ : _ ∧ Below wr.heap.size wr w5))
        unfold MxP
        rw [hko]
        clear kS kSf hdec hdd hbad hko HX' HY' HM
        go_wp2_with fail
        first | go_region_held3 (fun wx => wx.cell? ⟨w1.heap.size, 0, none⟩ = some (.int .i64 x) ∧ wx.cell? ⟨w1.heap.size, 1, none⟩ = some (.int .i64 y) ∧ wx.cell? ⟨w1.heap.size, 2, none⟩ = some (.int .i64 u) ∧ wx.cell? ⟨w1.heap.size, 3, none⟩ = some (.int .i64 v) ∧ wx.cell? ⟨g, o + j, none⟩ = some (.int .i64 t))
          (first | exact KS _ (Below.refl _ _).drew | exact KS _ ((Below.refl _ _).alloc (Nat.le_refl _) _).drew | exact KS _ bx_w5 | exact KS _ ((((bx_w5.setCell (p := ⟨wr.heap.size, 0, none⟩) (Nat.le_refl _) _).setCell (p := ⟨wr.heap.size, 1, none⟩) (Nat.le_refl _) _).setCell (p := ⟨wr.heap.size, 2, none⟩) (Nat.le_refl _) _).setCell (p := ⟨wr.heap.size, 3, none⟩) (Nat.le_refl _) _) | exact KS _ (bx_w5.alloc bx_w5.size _) | go_keep)
          (first
            | (go_at_call 103; with_reducible refine kSA.mono ?_; rintro _ w5 ⟨rfl, bx_w5, ⟨n1, n2, n3, n4⟩, ⟨n5, n6, n7, n8⟩, n9⟩)
            | (go_at_call 103; with_reducible refine kSB.mono ?_; rintro _ w5 ⟨rfl, bx_w5⟩)) | fail
        all_goals
          have s5 := bx_w5.size
          have hR5 := HR.out.below bx_w5 lR
          have hB5 := HB.out.below bx_w5 lB
          have v1 : w5.cell? ⟨w.heap.size, 0, none⟩ = some (.int .i64 0) := hR5.cell 0
          have v2 : w5.cell? ⟨w.heap.size, 1, none⟩ = some (.int .i64 0) := hR5.cell 1
          have v21 : w5.cell? ⟨w.heap.size, 2, none⟩ = some (.int .i64 0) := hR5.cell 2
          have v22 : w5.cell? ⟨w.heap.size, 3, none⟩ = some (.int .i64 0) := hR5.cell 3
          have v3 : w5.frozen? ⟨w.heap.size, 0, none⟩ = false := hR5.frozen 0
          have v4 : w5.frozen? ⟨w.heap.size, 1, none⟩ = false := hR5.frozen 1
          have v41 : w5.frozen? ⟨w.heap.size, 2, none⟩ = false := hR5.frozen 2
          have v42 : w5.frozen? ⟨w.heap.size, 3, none⟩ = false := hR5.frozen 3
          have v5 : w.heap.size < w5.heap.size := by omega
          have v6 : w.heap.size ≠ wr.heap.size := by omega
          have v7 : wr.heap.size ≠ w.heap.size := by omega
          have v8 : w.heap.size ≠ w5.heap.size := by omega
          have o7 : w1.heap.size < w5.heap.size := by omega
          have o8 : w1.heap.size ≠ wr.heap.size := by omega
          have o9 : wr.heap.size ≠ w1.heap.size := by omega
          have o10 : w.heap.size ≠ w1.heap.size := by omega
          have k3' : w5.cell? ⟨w1.heap.size, 0, none⟩ = some (.int .i64 x) := hB5.cell 0
          have k4' : w5.cell? ⟨w1.heap.size, 1, none⟩ = some (.int .i64 y) := hB5.cell 1
          have k5' : w5.cell? ⟨w1.heap.size, 2, none⟩ = some (.int .i64 u) := hB5.cell 2
          have k6' : w5.cell? ⟨w1.heap.size, 3, none⟩ = some (.int .i64 v) := hB5.cell 3
          have bel5 : Below w.heap.size w w5 := bthen HBW.out bx_w5 qr
        all_goals go_wp2
        all_goals refine bodyPost_ret (by simp [results, Try.results74, go_sem, *]; try rfl) rfl ?_
        all_goals refine ⟨x, y, u, v, rfl, fun h => absurd h (by decide), ?_⟩
        all_goals repeat' (first | (with_reducible exact Below.refl _ _) | (with_reducible assumption) | (with_reducible refine Below.alloc ?_ ?_ _) | (with_reducible refine Below.drew ?_) | (with_reducible refine bdrewN ?_ _) | (with_reducible refine Below.setCell ?_ ?_ _) | (with_reducible refine bthen ?_ (by assumption) ?_) | go_size)
      · have kSt := fun w => kS true (hdec.trans hdd) w
        have kSA := (kSt ((wr.alloc (.cells #[.int .i64 0, .int .i64 0, .int .i64 0, .int .i64 0] 104)).drew)).mono (fun e w5 h => (⟨h.1, KN w5 h.2⟩ : _ ∧ _))
        have kSB := (kSt wr.drew).mono (fun e w5 h => (⟨h.1, bthen (Below.refl _ _).drew h.2 (Nat.le_refl _)⟩ : _ ∧ Below wr.heap.size wr w5))
        have HD := Lib.hid hdd
        clear kS kSt hdec hdd hbad
        go_wp2_with fail
        first | go_region_held3 (fun wx => wx.cell? ⟨w1.heap.size, 0, none⟩ = some (.int .i64 x) ∧ wx.cell? ⟨w1.heap.size, 1, none⟩ = some (.int .i64 y) ∧ wx.cell? ⟨w1.heap.size, 2, none⟩ = some (.int .i64 u) ∧ wx.cell? ⟨w1.heap.size, 3, none⟩ = some (.int .i64 v) ∧ wx.cell? ⟨g, o + j, none⟩ = some (.int .i64 t))
          (first | exact KS _ (Below.refl _ _).drew | exact KS _ ((Below.refl _ _).alloc (Nat.le_refl _) _).drew | exact KS _ bx_w5 | exact KS _ ((((bx_w5.setCell (p := ⟨wr.heap.size, 0, none⟩) (Nat.le_refl _) _).setCell (p := ⟨wr.heap.size, 1, none⟩) (Nat.le_refl _) _).setCell (p := ⟨wr.heap.size, 2, none⟩) (Nat.le_refl _) _).setCell (p := ⟨wr.heap.size, 3, none⟩) (Nat.le_refl _) _) | exact KS _ (bx_w5.alloc bx_w5.size _) | go_keep)
          (first
            | (go_at_call 103; with_reducible refine kSA.mono ?_; rintro _ w5 ⟨rfl, bx_w5, ⟨n1, n2, n3, n4⟩, ⟨n5, n6, n7, n8⟩, n9⟩)
            | (go_at_call 103; with_reducible refine kSB.mono ?_; rintro _ w5 ⟨rfl, bx_w5⟩)) | fail
        all_goals
          have s5 := bx_w5.size
          have hR5 := HR.out.below bx_w5 lR
          have hB5 := HB.out.below bx_w5 lB
          have v5 : w.heap.size < w5.heap.size := by omega
          have v6 : w.heap.size ≠ wr.heap.size := by omega
          have k3' : w5.cell? ⟨w1.heap.size, 0, none⟩ = some (.int .i64 x) := hB5.cell 0
          have k4' : w5.cell? ⟨w1.heap.size, 1, none⟩ = some (.int .i64 y) := hB5.cell 1
          have k5' : w5.cell? ⟨w1.heap.size, 2, none⟩ = some (.int .i64 u) := hB5.cell 2
          have k6' : w5.cell? ⟨w1.heap.size, 3, none⟩ = some (.int .i64 v) := hB5.cell 3
          have o3 : w5.frozen? ⟨w1.heap.size, 0, none⟩ = false := hB5.frozen 0
          have o4 : w5.frozen? ⟨w1.heap.size, 1, none⟩ = false := hB5.frozen 1
          have o5 : w5.frozen? ⟨w1.heap.size, 2, none⟩ = false := hB5.frozen 2
          have o6 : w5.frozen? ⟨w1.heap.size, 3, none⟩ = false := hB5.frozen 3
          have o7 : w1.heap.size < w5.heap.size := by omega
          have o8 : w1.heap.size ≠ wr.heap.size := by omega
          have o9 : wr.heap.size ≠ w1.heap.size := by omega
          have o10 : w.heap.size ≠ w1.heap.size := by omega
          have bel5 : Below w.heap.size w w5 := bthen HBW.out bx_w5 qr
        all_goals go_wp2
        · go_roundg (gk - 1)
          case measure => omega
          case rel =>
            refine ⟨j + 1, by omega, by omega, by go_num, HD.out, ?_, ?_, ?_⟩
            · rw [HX'.out, HY'.out, HM.out.2.2.1, HM.out.2.2.2]; exact (mx_set4 hB5 _ _ _ _).alloc _
            · exact ((((hR5.far (p := ⟨w1.heap.size, 0, none⟩) o10 _).far (p := ⟨w1.heap.size, 1, none⟩) o10 _).far (p := ⟨w1.heap.size, 2, none⟩) o10 _).far (p := ⟨w1.heap.size, 3, none⟩) o10 _).alloc _
            · repeat' (first | (with_reducible exact Below.refl _ _) | (with_reducible assumption) | (with_reducible refine Below.alloc ?_ ?_ _) | (with_reducible refine Below.drew ?_) | (with_reducible refine bdrewN ?_ _) | (with_reducible refine Below.setCell ?_ ?_ _) | (with_reducible refine bthen ?_ (by assumption) ?_) | go_size)
        · go_roundg (gk - 1)
          case measure => omega
          case rel =>
            refine ⟨j + 1, by omega, by omega, by go_num, HD.out, ?_, ?_, ?_⟩
            · rw [HX'.out, HY'.out, HM.out.2.2.1, HM.out.2.2.2]; exact mx_set4 ((((hB5.far (p := ⟨wr.heap.size, 0, none⟩) o8 _).far (p := ⟨wr.heap.size, 1, none⟩) o8 _).far (p := ⟨wr.heap.size, 2, none⟩) o8 _).far (p := ⟨wr.heap.size, 3, none⟩) o8 _) _ _ _ _
            · exact ((((((((hR5.far (p := ⟨wr.heap.size, 0, none⟩) v6 _).far (p := ⟨wr.heap.size, 1, none⟩) v6 _).far (p := ⟨wr.heap.size, 2, none⟩) v6 _).far (p := ⟨wr.heap.size, 3, none⟩) v6 _).far (p := ⟨w1.heap.size, 0, none⟩) o10 _).far (p := ⟨w1.heap.size, 1, none⟩) o10 _).far (p := ⟨w1.heap.size, 2, none⟩) o10 _).far (p := ⟨w1.heap.size, 3, none⟩) o10 _)
            · repeat' (first | (with_reducible exact Below.refl _ _) | (with_reducible assumption) | (with_reducible refine Below.alloc ?_ ?_ _) | (with_reducible refine Below.drew ?_) | (with_reducible refine bdrewN ?_ _) | (with_reducible refine Below.setCell ?_ ?_ _) | (with_reducible refine bthen ?_ (by assumption) ?_) | go_size)
    · obtain rfl : j = n := by omega
      have hF : fitL zs = true := by unfold fitL; rw [HL.out]; exact hfit
      obtain ⟨⟨b1, b2⟩, ⟨b3, b4⟩, ⟨b5, b6⟩, ⟨b7, b8⟩⟩ := cfit_bd (fit_last zs) hfit (by rw [HL.out]; omega)
      have hz : zs.take j = zs := List.take_of_length_le (by rw [HL.out]; omega)
      have hcl : w.heap.size ≠ w1.heap.size := by omega
      rw [hz] at b1 b2 b3 b4 b5 b6 b7 b8 k3 k4 k5 k6
      have HF := Lib.hid hF
      clear hfit hF hz hB hR
      unfold MxP
      rw [HF.out]
      generalize e1 : (mtx zs).1.1 = p at *
      generalize e2 : (mtx zs).1.2 = q at *
      generalize e3 : (mtx zs).2.1 = pp at *
      generalize e4 : (mtx zs).2.2 = qq at *
      go_wp2
      refine bodyPost_ret (by simp [results, Try.results74, go_sem, *]; try rfl) rfl ?_
      refine ⟨p, q, pp, qq, by first | rfl | rw [HF.out], fun _ => ⟨by first | rfl | exact e1.symm, by first | rfl | exact e2.symm, by first | rfl | exact e3.symm, by first | rfl | exact e4.symm⟩, ?_⟩
      repeat' (first | (with_reducible exact Below.refl _ _) | (with_reducible assumption) | (with_reducible refine Below.alloc ?_ ?_ _) | (with_reducible refine Below.drew ?_) | (with_reducible refine bdrewN ?_ _) | (with_reducible refine Below.setCell ?_ ?_ _) | (with_reducible refine bthen ?_ (by assumption) ?_) | go_size)
end Go.Proofs.Ytkjakgemjhbfoaa
