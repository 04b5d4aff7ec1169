/-
  The least solution with 1 or -1: the program's way along the period of the root.
-/
import Derived.Test.YtibbokllongomaaDoorPr2
import Derived.Test.YtibbokllongomaaDoorPp
import Derived.Deep.RegionWith
namespace Go.Proofs.YtibbokllongomaaDoor
open Go.RowKit

theorem pd_zero {d : Int} (h : pdM d = 0) : 2 ≤ d ∧ d ≤ 10000 ∧ sqB d = false := by
  unfold pdM at h
  split at h
  · rename_i h1
    obtain ⟨a, b⟩ := inB_iff.1 h1
    cases hs : sqB d
    · exact ⟨a, b, rfl⟩
    · rw [hs] at h; simp at h
  · simp at h
theorem tm_eq (d : Int) (n : Nat) : tmL d (orb d (0, 1)) n = (List.range n).map (trX d) := rfl
theorem tm_drop (d : Int) (n i : Nat) (h : i + 1 < n) : ((tmL d (orb d (0, 1)) n).drop 1)[i]? = some (trX d (i + 1)) := by
  rw [List.getElem?_drop, tm_eq, List.getElem?_map, List.getElem?_range (by omega), Nat.add_comm]
  rfl
def RootP (w : World) (d a0 : Int) (r : Option (Nat × Nat)) (e : Ending) (w' : World) : Prop :=
  (∃ m v, r = some (1, m) ∧ 2 ≤ m ∧ m ≤ 400 ∧ e = .returned (.tuple #[.int .i64 a0, v, .bool true]) ∧ w'.ownsRow w.heap.size 2 1 v (m - 1) (ints ((tmL d (orb d (0, 1)) m).drop 1)) ∧ Below w.heap.size w w') ∨
  (r = none ∧ e = .returned (.tuple #[.int .i64 0, .slice none 0 0, .bool false]) ∧ Below w.heap.size w w')
set_option maxHeartbeats 1000000 in
theorem checkPell0_any (d : Int) (r : Int) (hr : pdM d = r) (w : World) : Calls Tryd.prog 50 #[.int .i64 d, .slice none 0 0] w (Ret w (.int .i64 r)) := by
  cases h1 : inB d 2 10000
  · obtain rfl : r = 2 := by rw [← hr]; unfold pdM; rw [h1]; rfl
    have H1 := Lib.hid h1
    clear h1 hr
    go_enter Tryd.func50, Tryd.ntmps50
    go_wp2_with fail
    apply Calls.mono
    · with_reducible exact within_any _ _ _ false H1.out _
    rintro _ w1 ⟨rfl, hb_w1⟩
    obtain ⟨hc_w1, hf_w1, hs_w1⟩ := bcell hb_w1
    try simp at hs_w1
    go_wp2
    go_ret
    refine ⟨by first | rfl | (simp), ?_⟩
    repeat' (first | (with_reducible exact Below.refl _ _) | (with_reducible assumption) | (with_reducible refine Below.alloc ?_ ?_ _) | (with_reducible refine Below.drew ?_) | (with_reducible refine bdrewN ?_ _) | (with_reducible refine Below.setCell ?_ ?_ _) | (with_reducible refine bthen ?_ (by assumption) ?_) | go_size)
  · obtain ⟨a, b⟩ := inB_iff.1 h1
    have H1 := Lib.hid h1
    cases h2 : sqB d
    · obtain rfl : r = 0 := by rw [← hr]; unfold pdM; rw [h1, h2]; rfl
      have H2 := Lib.hid h2
      clear h1 h2 hr
      go_enter Tryd.func50, Tryd.ntmps50
      go_wp2_with fail
      apply Calls.mono
      · with_reducible exact within_any _ _ _ true H1.out _
      rintro _ w1 ⟨rfl, hb_w1⟩
      obtain ⟨hc_w1, hf_w1, hs_w1⟩ := bcell hb_w1
      try simp at hs_w1
      go_wp2_with fail
      apply Calls.mono
      · with_reducible exact isSquare_any _ (by omega) false H2.out _
      rintro _ w2 ⟨rfl, hb_w2⟩
      obtain ⟨hc_w2, hf_w2, hs_w2⟩ := bcell hb_w2
      try simp at hs_w2
      go_wp2
      refine wp_loop_rounds 1 ?_
      rw [rounds_succ]
      go_wp2
      go_ret
      refine ⟨by first | rfl | (simp), ?_⟩
      repeat' (first | (with_reducible exact Below.refl _ _) | (with_reducible assumption) | (with_reducible refine Below.alloc ?_ ?_ _) | (with_reducible refine Below.drew ?_) | (with_reducible refine bdrewN ?_ _) | (with_reducible refine Below.setCell ?_ ?_ _) | (with_reducible refine bthen ?_ (by assumption) ?_) | go_size)
    · obtain rfl : r = 6 := by rw [← hr]; unfold pdM; rw [h1, h2]; rfl
      have H2 := Lib.hid h2
      clear h1 h2 hr
      go_enter Tryd.func50, Tryd.ntmps50
      go_wp2_with fail
      apply Calls.mono
      · with_reducible exact within_any _ _ _ true H1.out _
      rintro _ w1 ⟨rfl, hb_w1⟩
      obtain ⟨hc_w1, hf_w1, hs_w1⟩ := bcell hb_w1
      try simp at hs_w1
      go_wp2_with fail
      apply Calls.mono
      · with_reducible exact isSquare_any _ (by omega) true H2.out _
      rintro _ w2 ⟨rfl, hb_w2⟩
      obtain ⟨hc_w2, hf_w2, hs_w2⟩ := bcell hb_w2
      try simp at hs_w2
      go_wp2
      go_ret
      refine ⟨by first | rfl | (simp), ?_⟩
      repeat' (first | (with_reducible exact Below.refl _ _) | (with_reducible assumption) | (with_reducible refine Below.alloc ?_ ?_ _) | (with_reducible refine Below.drew ?_) | (with_reducible refine bdrewN ?_ _) | (with_reducible refine Below.setCell ?_ ?_ _) | (with_reducible refine bthen ?_ (by assumption) ?_) | go_size)
set_option maxHeartbeats 1000000 in
theorem rootPeriod_any (d a0 : Int) (R : RootD d a0) (w : World) : Calls Tryd.prog 104 #[.int .i64 d] w (RootP w d a0 (wk d (0, 1))) := by
  have kP := fun w => periodOf_any 0 d 1 (root_ok0 R) w
  have hrw := fun {j m} => root_walk (j := j) (m := m) R
  have h0 : trX d 0 = a0 := (root_zero R).2.1
  generalize hwk : wk d (0, 1) = r at *
  go_enter Tryd.func104, Tryd.ntmps104
  go_wp2_with fail
  apply Calls.mono
  · with_reducible exact kP _
  rintro _ w1 (⟨j, m, v1, v2, hr, rfl, ho1, ho2, hap, hb_w1⟩ | ⟨hr, rfl, hb_w1⟩)
  · obtain ⟨rfl, hm2, hm4, _⟩ := hrw hr
    have HR := Lib.hid hr
    clear hrw kP hr hwk
    have hx : (tmL d (orb d (0, 1)) m)[0]? = some a0 := by rw [tm_eq, ← h0, List.getElem?_map, List.getElem?_range (by omega)]; rfl
    obtain ⟨A, c, rfl, hn1, hc1, _, hr1⟩ := Rd.of_own ho1
    rcases hr1 with h | ⟨g, of, rfl, hg, hcell⟩
    · omega
    have c1 : w1.cell? ⟨g, of, none⟩ = some (.int .i64 a0) := hcell 0 _ (ints_get (by rw [List.getElem?_take_of_lt (by omega)]; exact hx))
    clear hx hcell ho1 hap
    go_wp2
    go_ret3
    exact Or.inl ⟨m, v2, HR.out, hm2, hm4, rfl, ho2, hb_w1⟩
  · clear hrw kP
    go_wp2
    go_ret3
    exact Or.inr ⟨hr, rfl, hb_w1⟩
def UnR (w : World) (d : Int) (l : Nat) (k : Nat) (x y x0 y0 i : Value) (wr : World) : Prop :=
  ∃ t : Nat, t + 1 ≤ l ∧ l ≤ t + 1 + k ∧ i = .int .i64 t ∧ x = .int .i64 (cvX d (t + 1)).1.1 ∧ y = .int .i64 (cvX d (t + 1)).1.2 ∧ x0 = .int .i64 (cvX d t).1.1 ∧ y0 = .int .i64 (cvX d t).1.2 ∧ okP d (cvX d (t + 1)).1.1 (cvX d (t + 1)).1.2 = true ∧ Below w.heap.size w wr
def unM (d : Int) (l : Nat) : Int × Int × Int × Bool := if okP d (cvX d l).1.1 (cvX d l).1.2 then ((cvX d l).1.1, (cvX d l).1.2, sgX l, true) else (0, 0, 0, false)
set_option maxRecDepth 100000 in
set_option maxHeartbeats 2000000 in
theorem unit_any (d : Int) (h1 : 2 ≤ d) (h2 : d ≤ 10000) (h3 : sqB d = false) (l : Nat) (hl : wk d (0, 1) = some (1, l + 1)) (w : World) : Calls Tryd.prog 85 #[.int .i64 d] w (Ret w (.tuple #[.agg #[.int .i64 (unM d l).1, .int .i64 (unM d l).2.1], .int .i64 (unM d l).2.2.1, .bool (unM d l).2.2.2])) := by
  have R := rootD h1 (by omega) h3
  have hA : ((isq d.toNat : Nat) : Int) < 100 := by
    have q := R.low
    rcases Int.lt_or_le ((isq d.toNat : Nat) : Int) 100 with h | h
    · exact h
    · have := Int.mul_le_mul h h (by omega) (by omega)
      omega
  generalize ((isq d.toNat : Nat) : Int) = a0 at *
  have kR := fun w => rootPeriod_any d a0 R w
  obtain ⟨_, hl2, hl4, hlast⟩ := root_walk R hl
  rw [show l + 1 - 1 = l by omega] at hlast
  have hnm : nmV d (cvX d l).1.1 (cvX d l).1.2 = sgX l := by
    unfold nmV
    rw [cv_norm R l, hlast]
    simp
  obtain ⟨c1, c2, c3⟩ := cv_one R h2
  have hok : ∀ k, k ≤ l → okP d (cvX d l).1.1 (cvX d l).1.2 = true → okP d (cvX d k).1.1 (cvX d k).1.2 = true := fun k hk h => cv_ok R k l hk h
  have htr := fun k => tr_bd R k
  have hdr := fun i h => tm_drop d (l + 1) i h
  have hup := fun k => cv_up R k
  have hst : ∀ k, (cvX d (k + 1)).1.1 = trX d k * (cvX d k).1.1 + (cvX d k).2.1 ∧ (cvX d (k + 1)).1.2 = trX d k * (cvX d k).1.2 + (cvX d k).2.2 ∧ (cvX d (k + 1)).2 = (cvX d k).1 := fun k => ⟨rfl, rfl, rfl⟩
  have h00 : (cvX d 0).1 = (1, 0) := rfl
  rw [hl] at kR
  have H00 := Lib.hid h00
  have HC2 := Lib.hid c2
  have HC3 := Lib.hid c3
  have HNM := Lib.hid hnm
  have HOK := Lib.hid hok
  have HTR := Lib.hid htr
  have HDR := Lib.hid hdr
  have HUP := Lib.hid hup
  have HST := Lib.hid hst
  clear hl hlast hnm c2 c3 hok htr hdr hup hst h3 R h00
  obtain ⟨⟨r1, r2, r3, r4⟩, hM⟩ : ∃ M, unM d l = M := ⟨_, rfl⟩
  rw [hM]
  have HM := Lib.hid hM
  clear hM
  simp only
  go_enter Tryd.func85, Tryd.ntmps85
  go_wp2_with fail
  apply Calls.mono
  · with_reducible exact kR _
  rintro _ w1 (⟨m, v, hr, _, _, rfl, ho, hb_w1⟩ | ⟨hr, _, _⟩)
  · obtain rfl : l + 1 = m := by injection hr with hr; injection hr
    rw [show l + 1 - 1 = l by omega] at ho
    obtain ⟨A, c, rfl, hn1, hc1, _, hr1⟩ := Rd.of_own ho
    rcases hr1 with h | ⟨g, of, rfl, hg, hcell⟩
    · omega
    have HCL := Lib.hid hcell
    have hs1 := hb_w1.size
    rw [World.size_alloc] at hs1
    have z0 : w.heap.size < w1.heap.size := by omega
    have hR1 := (Blk.new w 40 #[.int .i64 0, .int .i64 0]).below hb_w1 (by simp)
    clear kR hr ho hcell
    have hl' : (1 : Int) ≤ (l : Int) := by omega
    have hl'' : (l : Int) ≤ 400 := by omega
    have hc' : (l : Int) - 1 ≤ (c : Int) := by omega
    go_wp2_with fail
    go_loopg [8, 9, 10, 11, 28] l (UnR w1 d l)
    case atStart =>
      refine ⟨0, by omega, by omega, rfl, by rw [HC2.out], by rw [HC3.out], by rw [H00.out], by rw [H00.out], c1, Below.refl _ _⟩
    case round =>
      obtain ⟨t, ht, htk, rfl, rfl, rfl, rfl, rfl, hokt, hbw⟩ := hrel
      obtain ⟨⟨⟨u1, u2⟩, ⟨u3, u4⟩, _⟩⟩ : (_ ∧ _ ∧ _) ∧ True := ⟨okP_bd h1 h2 hokt, trivial⟩
      have hs := hbw.size
      by_cases htl : t + 1 < l
      · obtain ⟨e1, e2, e3⟩ := HST.out (t + 1)
        obtain ⟨t1, t2⟩ := HTR.out (t + 1)
        obtain ⟨p1, p2, p3, p4, _⟩ := HUP.out (t + 1)
        obtain ⟨q1, q2, _, _, q5, q6⟩ := HUP.out t
        have e4 : (cvX d (t + 1)).2 = (cvX d t).1 := (HST.out t).2.2
        have hcl := HCL.out t _ (ints_get (HDR.out t (by omega)))
        have k1 : wr.cell? ⟨g, of + t, none⟩ = some (.int .i64 (trX d (t + 1))) := (hbw.cell (p := ⟨g, of + t, none⟩) hg).trans hcl
        have hgw : g < wr.heap.size := by omega
        rw [e4] at e1 e2
        have htl' : (t : Int) < (l : Int) - 1 := by omega
        have E1 := Lib.hid e1
        have E2 := Lib.hid e2
        have E3 := Lib.hid (e3.trans rfl)
        clear e1 e2 e3 e4 hcl
        have m1 : 0 ≤ trX d (t + 1) * (cvX d (t + 1)).1.1 ∧ trX d (t + 1) * (cvX d (t + 1)).1.1 ≤ 200000000000 := ⟨Int.mul_nonneg (by omega) (by omega), by have := Int.mul_le_mul (show trX d (t + 1) ≤ 200 by omega) u2 (by omega) (by omega); omega⟩
        have m2 : 0 ≤ trX d (t + 1) * (cvX d (t + 1)).1.2 ∧ trX d (t + 1) * (cvX d (t + 1)).1.2 ≤ 200000000000 := ⟨Int.mul_nonneg (by omega) (by omega), by have := Int.mul_le_mul (show trX d (t + 1) ≤ 200 by omega) u4 (by omega) (by omega); omega⟩
        generalize hx2 : (cvX d (t + 1 + 1)).1.1 = x2 at *
        generalize hy2 : (cvX d (t + 1 + 1)).1.2 = y2 at *
        generalize hx1 : (cvX d (t + 1)).1.1 = x1 at *
        generalize hy1 : (cvX d (t + 1)).1.2 = y1 at *
        generalize hxx : (cvX d t).1.1 = x0 at *
        generalize hyy : (cvX d t).1.2 = y0 at *
        generalize trX d (t + 1) = s at *
        have HX2 := Lib.hid hx2
        have HY2 := Lib.hid hy2
        have HX1 := Lib.hid hx1
        have HY1 := Lib.hid hy1
        clear hx2 hy2 hx1 hy1 hxx hyy
        obtain ⟨m3, m4⟩ := m1
        obtain ⟨m5, m6⟩ := m2
        cases hb : okP d x2 y2
        · have hun : unM d l = (0, 0, 0, false) := by
            unfold unM
            rw [if_neg]
            intro h
            have := HOK.out (t + 1 + 1) (by omega) h
            rw [HX2.out, HY2.out, hb] at this
            cases this
          obtain ⟨rfl, rfl, rfl, rfl⟩ : 0 = r1 ∧ 0 = r2 ∧ 0 = r3 ∧ false = r4 := by
            have e := hun.symm.trans HM.out
            injection e with e1 e
            injection e with e2 e
            injection e with e3 e4
            exact ⟨e1, e2, e3, e4⟩
          rw [E1.out, E2.out] at hb
          have HB := Lib.hid hb
          clear hun hb HM
          go_wp2_with fail
          apply Calls.mono
          · with_reducible exact isPlainPair_any _ _ _ (by omega) h2 false HB.out _
          rintro _ w2 ⟨rfl, hb_w2⟩
          have s2 := hb_w2.size
          have hR2 := (hR1.below hbw z0).below hb_w2 (by omega)
          have f1 : w2.frozen? ⟨w.heap.size, 0, none⟩ = false := hR2.frozen 0
          have f2 : w2.frozen? ⟨w.heap.size, 1, none⟩ = false := hR2.frozen 1
          have f3 : w2.cell? ⟨w.heap.size, 0, none⟩ = some (.int .i64 0) := hR2.cell 0
          have f4 : w2.cell? ⟨w.heap.size, 1, none⟩ = some (.int .i64 0) := hR2.cell 1
          go_wp2
          refine bodyPost_ret (by simp [results, Tryd.results85, go_sem, *]; try rfl) rfl ?_
          refine ⟨by first | rfl | simp, ?_⟩
          repeat' (first | (with_reducible exact Below.refl _ _) | (with_reducible assumption) | (with_reducible refine Below.alloc ?_ ?_ _) | (with_reducible refine Below.drew ?_) | (with_reducible refine bdrewN ?_ _) | (with_reducible refine Below.setCell ?_ ?_ _) | (with_reducible refine bthen ?_ (by assumption) ?_) | go_size)
        · have hb0 := hb
          rw [E1.out, E2.out] at hb
          have HB := Lib.hid hb
          have HB0 := Lib.hid hb0
          clear hb hb0
          go_wp2_with fail
          apply Calls.mono
          · with_reducible exact isPlainPair_any _ _ _ (by omega) h2 true HB.out _
          rintro _ w2 ⟨rfl, hb_w2⟩
          go_wp2
          go_roundg (gk - 1)
          case measure => omega
          case rel =>
            refine ⟨t + 1, by omega, by omega, by go_num, ?_, ?_, ?_, ?_, ?_, bthen hbw hb_w2 (by omega)⟩
            · rw [HX2.out, E1.out]
            · rw [HY2.out, E2.out]
            · rw [HX1.out]
            · rw [HY1.out]
            · rw [HX2.out, HY2.out]; exact HB0.out
      · obtain rfl : t + 1 = l := by omega
        have hun : unM d (t + 1) = ((cvX d (t + 1)).1.1, (cvX d (t + 1)).1.2, sgX (t + 1), true) := by unfold unM; rw [if_pos hokt]
        obtain ⟨rfl, rfl, rfl, rfl⟩ : (cvX d (t + 1)).1.1 = r1 ∧ (cvX d (t + 1)).1.2 = r2 ∧ sgX (t + 1) = r3 ∧ true = r4 := by
          have e := hun.symm.trans HM.out
          injection e with e1 e
          injection e with e2 e
          injection e with e3 e4
          exact ⟨e1, e2, e3, e4⟩
        have kN := fun w => norm_any d _ _ h1 h2 hokt w
        rw [HNM.out] at kN
        clear hun hokt HM HNM HOK HTR HDR HUP HST HC2 HC3 H00 c1 HCL
        generalize (cvX d (t + 1)).1.1 = x1 at *
        generalize (cvX d (t + 1)).1.2 = y1 at *
        generalize (cvX d t).1.1 = x0 at *
        generalize (cvX d t).1.2 = y0 at *
        generalize sgX (t + 1) = s at *
        have hR2 := hR1.below hbw z0
        have zr : w.heap.size < wr.heap.size := by omega
        have zn : ∀ n : Nat, w.heap.size < wr.heap.size + n := by intro n; omega
        have f1 : wr.frozen? ⟨w.heap.size, 0, none⟩ = false := hR2.frozen 0
        have f2 : wr.frozen? ⟨w.heap.size, 1, none⟩ = false := hR2.frozen 1
        have f3 : wr.cell? ⟨w.heap.size, 0, none⟩ = some (.int .i64 0) := hR2.cell 0
        have f4 : wr.cell? ⟨w.heap.size, 1, none⟩ = some (.int .i64 0) := hR2.cell 1
        go_wp2_with fail
        go_region_with (go_at_call 52; refine (kN _).mono ?_; rintro _ w2 ⟨rfl, hb_w2⟩; have hc_w2 := (bcell hb_w2).1; have hf_w2 := (bcell hb_w2).2.1; have z1 : w.heap.size < w2.heap.size := Nat.lt_of_lt_of_le (Nat.lt_of_lt_of_le zr (by first | (simp; done) | (simp; omega))) hb_w2.size)
        all_goals go_wp2
        all_goals
          refine bodyPost_ret (by simp [results, Tryd.results85, go_sem, *]; try rfl) rfl ?_
          refine ⟨by first | rfl | simp, ?_⟩
          repeat' (first | (with_reducible exact Below.refl _ _) | (with_reducible assumption) | (with_reducible refine Below.alloc ?_ ?_ _) | (with_reducible refine Below.drew ?_) | (with_reducible refine bdrewN ?_ _) | (with_reducible refine Below.setCell ?_ ?_ _) | (with_reducible refine bthen ?_ (by assumption) ?_) | go_size)
  · cases hr
end Go.Proofs.YtibbokllongomaaDoor
