/-
  For all bytes the law FnFarey answers true: both packages agree on drawn orders, elements have their ranks, a sequence has as many elements as the totients tell, neighbours touch. Conditions: the library's tables hold what its text lays in them (the card ties this to the text).
-/
import Derived.Test.YtlmmpeeacjbobaaDoorFls
import Derived.Test.YtlmmpeeacjbobaaDoorF6
import Derived.Test.YtlmmpeeacjbobaaDoorDrw
import Derived.Test.YtlmmpeeacjbobaaDoorDraw2
import Derived.Test.YtlmmpeeacjbobaaDoorFy
import Derived.Test.YtlmmpeeacjbobaaDoorCard
namespace Go.Proofs.YtlmmpeeacjbobaaDoor
open Go.ChangeShapes Go.WideShapes Go.ChangeAt Go.RowKit Go.Joins
open Go.ChangeMaps (open_string shut_string)
set_option linter.unusedVariables false

theorem seq_one (N : Int) : (seqM N).2 = 0 → 1 ≤ (seqM N).1.length := by
  intro h
  cases h1 : inB N 1 40
  · rw [show seqM N = ([], 2) by simp [seqM, h1]] at h; cases h
  · obtain ⟨b1, b2⟩ := inB_iff.1 h1
    rw [show seqM N = (farL N, 0) by simp [seqM, h1]]
    exact (farL_len b1 b2).1
def NbR (w : World) (n : Nat) (k : Nat) (i : Value) (wr : World) : Prop :=
  ∃ j : Nat, j + 1 ≤ n ∧ n ≤ j + 1 + k ∧ i = .int .i64 ((j + 1 : Nat) : Int) ∧ Below w.heap.size w wr
set_option maxHeartbeats 8000000 in
set_option maxRecDepth 100000 in
theorem walk_FnFarey (a : Option Addr) (n c : Nat) (zs : List Int) (w : World) (ht : Tb w) (hr : IsRow .u8 w a n c zs) :
    Calls Tryd.prog 5 #[.slice a n c] w (Ret w (.bool true)) := by
  by_cases hl : n ≤ 4096
  · have hrd := byteRd_of_row hr
    have kB := fun w => f6big_any a n c false (by simp [hl]) w
    have HRD := Lib.hid (fun w' (hb : Below w.heap.size w w') => hrd.below hb)
    have HTB := Lib.hid (fun w' (hb : Below w.heap.size w w') => ht.below hb)
    have hn5 : n ≤ 100000 := by omega
    clear hr hrd ht
    go_enter Tryd.func5, Tryd.ntmps5
    go_wp2_with fail
    apply Calls.mono
    · with_reducible exact kB _
    rintro _ w1 ⟨rfl, bel1⟩
    go_wp2_with fail
    apply Calls.mono
    · with_reducible exact drawFareySeq_any _ _ _ _ hn5 (HRD.out w1 bel1)
    rintro _ w2 ⟨N, rfl, hb_w2⟩
    have bel2 := bthen bel1 hb_w2 bel1.size
    have kI := fun w => fareySequenceI_any N w
    have kS := fun w => fareySequenceS_any N w
    have hlen := seq_len N
    have hcnt := fun h => cnt_at (N := N) h
    have hnb := fun h (i : Nat) (p q : Int × Int) hp hq => nb_at (N := N) h (i := i) (p := p) (q := q) hp hq
    have hone := seq_one N
    generalize (seqM N).1 = xs at *
    generalize (seqM N).2 = sc at *
    have HCNT := Lib.hid hcnt
    have HNB := Lib.hid hnb
    have HONE := Lib.hid hone
    clear hb_w2 hcnt hnb hone kB
    go_wp2_with fail
    apply Calls.mono
    · with_reducible exact kI _
    rintro _ w3 ⟨v4, rfl, ho3, hb_w3⟩
    go_wp2_with fail
    apply Calls.mono
    · with_reducible exact kS _
    rintro _ w4 ⟨v6, rfl, ho4, hb_w4⟩
    have oL := own_below ho3 hb_w4 (Nat.le_refl _)
    have belw := bthen (bthen bel2 hb_w3 bel2.size) hb_w4 (bthen bel2 hb_w3 bel2.size).size
    obtain ⟨a4, c4, rfl⟩ := own_slice' oL
    obtain ⟨a6, c6, rfl⟩ := own_slice' ho4
    have HRD4 := Lib.hid (fun w' (hb : Below w4.heap.size w4 w') => HRD.out w' (bthen belw hb belw.size))
    have HTB4 := Lib.hid (fun w' (hb : Below w4.heap.size w4 w') => HTB.out w' (bthen belw hb belw.size))
    have HW4 := Lib.hid (fun w' (hb : Below w4.heap.size w4 w') => (bthen belw hb belw.size : Below w.heap.size w w'))
    have HL4 := Lib.hid (fun w' (hb : Below w4.heap.size w4 w') => Rd.of_own (own_below oL hb (Nat.le_refl _)))
    have HM4 := Lib.hid (fun w' (hb : Below w4.heap.size w4 w') => Rd.of_own (own_below ho4 hb (Nat.le_refl _)))
    clear HRD HTB oL ho3 ho4 hb_w3 hb_w4 bel1 bel2 belw kI kS
    go_wp2_with fail
    apply Calls.mono
    · with_reducible exact drawFareyCount_any _ _ _ _ hn5 (HRD4.out w4 (Below.refl _ _))
    rintro _ w5 ⟨q, rfl, bel5⟩
    go_wp2_with fail
    apply Calls.mono
    · with_reducible exact fareyCountI_any _ _
    rintro _ w6 ⟨rfl, hb6⟩
    have bel6 := bthen bel5 hb6 bel5.size
    go_wp2_with fail
    apply Calls.mono
    · with_reducible exact fareyCountS_any _ _
    rintro _ w7 ⟨rfl, hb7⟩
    have bel7 := bthen bel6 hb7 bel6.size
    go_wp2_with fail
    apply Calls.mono
    · with_reducible exact drawTotientOf_any _ _ _ _ hn5 (HRD4.out w7 bel7)
    rintro _ w8 ⟨m, rfl, hb8⟩
    have bel8 := bthen bel7 hb8 bel7.size
    go_wp2_with fail
    apply Calls.mono
    · with_reducible exact totientOfI_any _ _
    rintro _ w9 ⟨rfl, hb9⟩
    have bel9 := bthen bel8 hb9 bel8.size
    go_wp2_with fail
    apply Calls.mono
    · with_reducible exact totientOfS_any _ _
    rintro _ w10 ⟨rfl, hb10⟩
    have bel10 := bthen bel9 hb10 bel9.size
    clear bel5 bel6 bel7 bel8 bel9 hb6 hb7 hb8 hb9 hb10
    go_wp2_with fail
    apply Calls.mono
    · with_reducible exact drawFareyAt_any _ _ _ _ hn5 (HRD4.out w10 bel10)
    rintro _ w11 ⟨o, k, rfl, hb11⟩
    have bel11 := bthen bel10 hb11 bel10.size
    have kAI := fun w => fareyAtI_any o k w
    have kAS := fun w => fareyAtS_any o k w
    have kR := fun w => fareyRankI_any o (atM o k).1 (atM o k).2.1 w
    have hrk := fun h => rank_at (N := o) (k := k) h
    generalize (atM o k).1 = f1 at *
    generalize (atM o k).2.1 = f2 at *
    generalize (atM o k).2.2 = fc at *
    have HRK := Lib.hid hrk
    clear hrk hb11 bel10
    generalize (cntM q).1 = q1 at *
    generalize (cntM q).2 = q2 at *
    generalize (totM m).1 = m1 at *
    generalize (totM m).2 = m2 at *
    go_wp2_with fail
    apply Calls.mono
    · with_reducible exact kAI _
    rintro _ w12 ⟨rfl, hb12⟩
    have bel12 := bthen bel11 hb12 bel11.size
    have belA := bel12.alloc bel12.size (.cells #[.int .i64 f1, .int .i64 f2] 43)
    have hF := Blk.new w12 43 #[.int .i64 f1, .int .i64 f2]
    go_wp2_with fail
    apply Calls.mono
    · with_reducible exact kAS _
    rintro _ w13 ⟨rfl, hb13⟩
    have bel13 := bthen belA hb13 belA.size
    have belB := bel13.alloc bel13.size (.cells #[.int .i64 f1, .int .i64 f2] 43)
    have hF13 := (hF.below hb13 hF.lt).alloc (.cells #[.int .i64 f1, .int .i64 f2] 43)
    have hG := Blk.new w13 43 #[.int .i64 f1, .int .i64 f2]
    clear bel11 bel12 bel13 hb12 hb13 belA hF kAI kAS
    go_wp2_with fail
    apply Calls.mono
    · with_reducible exact drawFareyLines_any _ _ _ _ hn5 (HRD4.out _ belB)
    rintro _ w14 ⟨l, rfl, hb14⟩
    have bel14 := bthen belB hb14 belB.size
    have hF14 := hF13.below hb14 hF13.lt
    have hG14 := hG.below hb14 hG.lt
    have kLI := fun w h => fareyLinesI_any l w h
    have kLS := fun w => fareyLinesS_any l w
    generalize (flM l).1 = ls at *
    generalize (flM l).2 = lc at *
    clear belB hb14 hF13 hG
    go_wp2_with fail
    apply Calls.mono
    · with_reducible exact kLI _ (HTB4.out _ bel14)
    rintro _ w15 ⟨vl, rfl, hl15, hb15⟩
    have bel15 := bthen bel14 hb15 bel14.size
    have hF15 := hF14.below hb15 hF14.lt
    have hG15 := hG14.below hb15 hG14.lt
    go_wp2_with fail
    apply Calls.mono
    · with_reducible exact kLS _
    rintro _ w16 ⟨vs, rfl, hs16, hb16⟩
    have bel16 := bthen bel15 hb16 bel15.size
    have hF16 := hF15.below hb16 hF15.lt
    have hG16 := hG15.below hb16 hG15.lt
    have hl16 := own_below hl15 hb16 (Nat.le_refl _)
    obtain ⟨al, cl, rfl⟩ := own_slice' hl16
    obtain ⟨as', cs', rfl⟩ := own_slice' hs16
    have kNe := run_neF f1 f2 f1 f2 false (by simp)
    have kGd := run_guardF .neq
    clear bel14 bel15 hb15 hb16 hF14 hF15 hG14 hG15 hl15 kLI kLS
    go_wp2_with fail
    apply Calls.mono
    · with_reducible exact f6fractions_same _ _ _ xs _ (HL4.out w16 bel16) (HM4.out w16 bel16)
    rintro _ w17 ⟨rfl, hb17⟩
    have bel17 := bthen bel16 hb17 bel16.size
    have hF17 := hF16.below hb17 hF16.lt
    have hG17 := hG16.below hb17 hG16.lt
    have d0 : w17.cell? ⟨w12.heap.size, 0, none⟩ = some (.int .i64 f1) := hF17.cell 0
    have d1 : w17.cell? ⟨w12.heap.size, 1, none⟩ = some (.int .i64 f2) := hF17.cell 1
    have d2 : w17.cell? ⟨w13.heap.size, 0, none⟩ = some (.int .i64 f1) := hG17.cell 0
    have d3 : w17.cell? ⟨w13.heap.size, 1, none⟩ = some (.int .i64 f2) := hG17.cell 1
    have hl17 := own_below hl16 hb17 (Nat.le_refl _)
    have hs17 := own_below hs16 hb17 (Nat.le_refl _)
    clear bel16 hb17 hF16 hG16 hl16 hs16
    go_wp2_with fail
    apply Calls.mono
    · with_reducible exact f6texts_same _ _ ls.length ls _ (Rd.of_own hl17) (Rd.of_own hs17)
    rintro _ w18 ⟨rfl, hb18⟩
    have bel18 := bthen bel17 hb18 bel17.size
    have hF18 := hF17.below hb18 hF17.lt
    have e0 : w18.cell? ⟨w12.heap.size, 0, none⟩ = some (.int .i64 f1) := hF18.cell 0
    have e1 : w18.cell? ⟨w12.heap.size, 1, none⟩ = some (.int .i64 f2) := hF18.cell 1
    have zF := hF18.lt
    clear hb18 hF17 hG17 d0 d1 d2 d3 hl17 hs17 bel17 hF18
    by_cases hfc : fc = 0
    · rw [HRK.out hfc] at kR
      subst hfc
      go_wp2_with fail
      apply Calls.mono
      · with_reducible exact kR _
      rintro _ w19 ⟨rfl, hb19⟩
      have bel19 := bthen bel18 hb19 bel18.size
      clear hb19 e0 e1 zF
      by_cases hsc : sc = 0
      · have kC := fun w => fareyCountI_any N w
        rw [HCNT.out hsc] at kC
        have hone := HONE.out hsc
        have hnb := HNB.out hsc
        subst hsc
        clear HCNT HNB HONE kR HRK
        go_wp2_with fail
        apply Calls.mono
        · with_reducible exact kC _
        rintro _ w20 ⟨rfl, hb20⟩
        have bel20 := bthen bel19 hb20 bel19.size
        have belz := HW4.out w20 bel20
        obtain ⟨A6, C6, hv6, x1, x2, x3, h0 | ⟨g6, o6, rfl, hg6, hcell6⟩⟩ := HM4.out w20 bel20
        · omega
        injection hv6 with hv6a hv6b hv6c
        subst hv6a hv6c
        have HC6 := Lib.hid hcell6
        have HNB := Lib.hid hnb
        clear hcell6 hnb hb20 kC
        go_wp2_with fail
        go_loopg [33] xs.length (fun k i wr => NbR w20 xs.length k i wr)
        case atStart => exact ⟨0, by omega, by omega, by go_num, Below.refl _ _⟩
        case round =>
          obtain ⟨j, hj1, hj2, rfl, hbw⟩ := hrel
          have hs := hbw.size
          by_cases hjn : j + 1 < xs.length
          · have hjn' : ((j + 1 : Nat) : Int) < (xs.length : Int) := by omega
            obtain ⟨⟨p1, p2⟩, hp⟩ := get_ex (l := xs) (k := j) (by omega)
            obtain ⟨⟨r1, r2⟩, hq⟩ := get_ex (l := xs) (k := j + 1) hjn
            obtain ⟨k1, k2, k3⟩ := HNB.out j _ _ hp hq
            obtain ⟨i1, i2⟩ := prs_get hp
            obtain ⟨i3, i4⟩ := prs_get hq
            simp only at k1 k2 k3 i1 i2 i3 i4
            have c1 : wr.cell? ⟨g6, o6 + j * 2, none⟩ = some (.int .i64 p1) := (hbw.cell (p := ⟨g6, o6 + j * 2, none⟩) hg6).trans (HC6.out (j * 2) _ i1)
            have c2 : wr.cell? ⟨g6, o6 + j * 2 + 1, none⟩ = some (.int .i64 p2) := (hbw.cell (p := ⟨g6, o6 + j * 2 + 1, none⟩) hg6).trans (HC6.out (j * 2 + 1) _ i2)
            have c3 : wr.cell? ⟨g6, o6 + (j + 1) * 2, none⟩ = some (.int .i64 r1) := (hbw.cell (p := ⟨g6, o6 + (j + 1) * 2, none⟩) hg6).trans (HC6.out ((j + 1) * 2) _ i3)
            have c4 : wr.cell? ⟨g6, o6 + (j + 1) * 2 + 1, none⟩ = some (.int .i64 r2) := (hbw.cell (p := ⟨g6, o6 + (j + 1) * 2 + 1, none⟩) hg6).trans (HC6.out ((j + 1) * 2 + 1) _ i4)
            have hgw : g6 < wr.heap.size := by omega
            have e1 : ((j + 1 : Nat) : Int) - 1 = (j : Int) := by omega
            have e2 : (j : Int) < (xs.length : Int) := by omega
            have kT := fun w => circlesTouchI_any p1 p2 r1 r2 w
            have kN := fun w => areNeighbours_any p1 p2 r1 r2 true (by rw [k1, k2, k3]; rfl) w
            rw [show (okF p1 p2 && okF r1 r2 && nbF p1 p2 r1 r2) = true by rw [k1, k2, k3]; rfl, show twoC p1 p2 r1 r2 = 0 by unfold twoC; rw [k1, k2]; rfl] at kT
            clear hp hq k1 k2 k3 i1 i2 i3 i4
            go_wp2_with fail
            refine wp_region_calm (by kernel_rfl) (by kernel_rfl) ?_
            repeat (go_big_quiet_step ((first | with_reducible exact calm (kT _))))
            refine wpQuiet_nil ?_
            intro w21 hb_w21
            obtain ⟨hc_w21, hf_w21, hs_w21⟩ := bcell hb_w21
            try simp at hs_w21
            have hs21 := hb_w21.size
            have c5 := (hb_w21.cell (p := ⟨g6, o6 + j * 2, none⟩) hgw).trans c1
            have c6' := (hb_w21.cell (p := ⟨g6, o6 + j * 2 + 1, none⟩) hgw).trans c2
            have c7 := (hb_w21.cell (p := ⟨g6, o6 + (j + 1) * 2, none⟩) hgw).trans c3
            have c8 := (hb_w21.cell (p := ⟨g6, o6 + (j + 1) * 2 + 1, none⟩) hgw).trans c4
            have hgw2 : g6 < w21.heap.size := by omega
            go_wp2_with fail
            refine wp_region_calm (by kernel_rfl) (by kernel_rfl) ?_
            repeat (go_big_quiet_step ((first | with_reducible exact calm (kN _))))
            refine wpQuiet_nil ?_
            intro w22 hb_w22
            obtain ⟨hc_w22, hf_w22, hs_w22⟩ := bcell hb_w22
            try simp at hs_w22
            have belx := bthen (bthen hbw hb_w21 hs) hb_w22 (bthen hbw hb_w21 hs).size
            go_wp2
            go_roundg (gk - 1)
            case measure => omega
            case rel => exact ⟨j + 1, by omega, by omega, by go_num, belx⟩
          · have hjn' : ¬ (((j + 1 : Nat) : Int) < (xs.length : Int)) := by omega
            have bely := bthen belz hbw belz.size
            go_wp2
            go_ret
            refine ⟨by first | rfl | (simp), ?_⟩
            repeat' (first | (with_reducible exact Below.refl _ _) | (with_reducible assumption) | (with_reducible refine Below.alloc ?_ ?_ _) | (with_reducible refine Below.drew ?_) | (with_reducible refine bdrewN ?_ _) | (with_reducible refine Below.setCell ?_ ?_ _) | (with_reducible refine bthen ?_ (by assumption) ?_) | go_size)
      · have hsc' : (sc != 0) = true := by simp [hsc]
        have belz := HW4.out w19 bel19
        go_wp2
        go_ret
        refine ⟨by first | rfl | (simp), ?_⟩
        repeat' (first | (with_reducible exact Below.refl _ _) | (with_reducible assumption) | (with_reducible refine Below.alloc ?_ ?_ _) | (with_reducible refine Below.drew ?_) | (with_reducible refine bdrewN ?_ _) | (with_reducible refine Below.setCell ?_ ?_ _) | (with_reducible refine bthen ?_ (by assumption) ?_) | go_size)
    · have hfc' : (fc == 0) = false := by simp [hfc]
      clear e0 e1 zF
      by_cases hsc : sc = 0
      · have kC := fun w => fareyCountI_any N w
        rw [HCNT.out hsc] at kC
        have hone := HONE.out hsc
        have hnb := HNB.out hsc
        subst hsc
        clear HCNT HNB HONE kR HRK
        go_wp2_with fail
        apply Calls.mono
        · with_reducible exact kC _
        rintro _ w20 ⟨rfl, hb20⟩
        have bel20 := bthen bel18 hb20 bel18.size
        have belz := HW4.out w20 bel20
        obtain ⟨A6, C6, hv6, x1, x2, x3, h0 | ⟨g6, o6, rfl, hg6, hcell6⟩⟩ := HM4.out w20 bel20
        · omega
        injection hv6 with hv6a hv6b hv6c
        subst hv6a hv6c
        have HC6 := Lib.hid hcell6
        have HNB := Lib.hid hnb
        clear hcell6 hnb hb20 kC
        go_wp2_with fail
        go_loopg [33] xs.length (fun k i wr => NbR w20 xs.length k i wr)
        case atStart => exact ⟨0, by omega, by omega, by go_num, Below.refl _ _⟩
        case round =>
          obtain ⟨j, hj1, hj2, rfl, hbw⟩ := hrel
          have hs := hbw.size
          by_cases hjn : j + 1 < xs.length
          · have hjn' : ((j + 1 : Nat) : Int) < (xs.length : Int) := by omega
            obtain ⟨⟨p1, p2⟩, hp⟩ := get_ex (l := xs) (k := j) (by omega)
            obtain ⟨⟨r1, r2⟩, hq⟩ := get_ex (l := xs) (k := j + 1) hjn
            obtain ⟨k1, k2, k3⟩ := HNB.out j _ _ hp hq
            obtain ⟨i1, i2⟩ := prs_get hp
            obtain ⟨i3, i4⟩ := prs_get hq
            simp only at k1 k2 k3 i1 i2 i3 i4
            have c1 : wr.cell? ⟨g6, o6 + j * 2, none⟩ = some (.int .i64 p1) := (hbw.cell (p := ⟨g6, o6 + j * 2, none⟩) hg6).trans (HC6.out (j * 2) _ i1)
            have c2 : wr.cell? ⟨g6, o6 + j * 2 + 1, none⟩ = some (.int .i64 p2) := (hbw.cell (p := ⟨g6, o6 + j * 2 + 1, none⟩) hg6).trans (HC6.out (j * 2 + 1) _ i2)
            have c3 : wr.cell? ⟨g6, o6 + (j + 1) * 2, none⟩ = some (.int .i64 r1) := (hbw.cell (p := ⟨g6, o6 + (j + 1) * 2, none⟩) hg6).trans (HC6.out ((j + 1) * 2) _ i3)
            have c4 : wr.cell? ⟨g6, o6 + (j + 1) * 2 + 1, none⟩ = some (.int .i64 r2) := (hbw.cell (p := ⟨g6, o6 + (j + 1) * 2 + 1, none⟩) hg6).trans (HC6.out ((j + 1) * 2 + 1) _ i4)
            have hgw : g6 < wr.heap.size := by omega
            have e1 : ((j + 1 : Nat) : Int) - 1 = (j : Int) := by omega
            have e2 : (j : Int) < (xs.length : Int) := by omega
            have kT := fun w => circlesTouchI_any p1 p2 r1 r2 w
            have kN := fun w => areNeighbours_any p1 p2 r1 r2 true (by rw [k1, k2, k3]; rfl) w
            rw [show (okF p1 p2 && okF r1 r2 && nbF p1 p2 r1 r2) = true by rw [k1, k2, k3]; rfl, show twoC p1 p2 r1 r2 = 0 by unfold twoC; rw [k1, k2]; rfl] at kT
            clear hp hq k1 k2 k3 i1 i2 i3 i4
            go_wp2_with fail
            refine wp_region_calm (by kernel_rfl) (by kernel_rfl) ?_
            repeat (go_big_quiet_step ((first | with_reducible exact calm (kT _))))
            refine wpQuiet_nil ?_
            intro w21 hb_w21
            obtain ⟨hc_w21, hf_w21, hs_w21⟩ := bcell hb_w21
            try simp at hs_w21
            have hs21 := hb_w21.size
            have c5 := (hb_w21.cell (p := ⟨g6, o6 + j * 2, none⟩) hgw).trans c1
            have c6' := (hb_w21.cell (p := ⟨g6, o6 + j * 2 + 1, none⟩) hgw).trans c2
            have c7 := (hb_w21.cell (p := ⟨g6, o6 + (j + 1) * 2, none⟩) hgw).trans c3
            have c8 := (hb_w21.cell (p := ⟨g6, o6 + (j + 1) * 2 + 1, none⟩) hgw).trans c4
            have hgw2 : g6 < w21.heap.size := by omega
            go_wp2_with fail
            refine wp_region_calm (by kernel_rfl) (by kernel_rfl) ?_
            repeat (go_big_quiet_step ((first | with_reducible exact calm (kN _))))
            refine wpQuiet_nil ?_
            intro w22 hb_w22
            obtain ⟨hc_w22, hf_w22, hs_w22⟩ := bcell hb_w22
            try simp at hs_w22
            have belx := bthen (bthen hbw hb_w21 hs) hb_w22 (bthen hbw hb_w21 hs).size
            go_wp2
            go_roundg (gk - 1)
            case measure => omega
            case rel => exact ⟨j + 1, by omega, by omega, by go_num, belx⟩
          · have hjn' : ¬ (((j + 1 : Nat) : Int) < (xs.length : Int)) := by omega
            have bely := bthen belz hbw belz.size
            go_wp2
            go_ret
            refine ⟨by first | rfl | (simp), ?_⟩
            repeat' (first | (with_reducible exact Below.refl _ _) | (with_reducible assumption) | (with_reducible refine Below.alloc ?_ ?_ _) | (with_reducible refine Below.drew ?_) | (with_reducible refine bdrewN ?_ _) | (with_reducible refine Below.setCell ?_ ?_ _) | (with_reducible refine bthen ?_ (by assumption) ?_) | go_size)
      · have hsc' : (sc != 0) = true := by simp [hsc]
        have belz := HW4.out w18 bel18
        go_wp2
        go_ret
        refine ⟨by first | rfl | (simp), ?_⟩
        repeat' (first | (with_reducible exact Below.refl _ _) | (with_reducible assumption) | (with_reducible refine Below.alloc ?_ ?_ _) | (with_reducible refine Below.drew ?_) | (with_reducible refine bdrewN ?_ _) | (with_reducible refine Below.setCell ?_ ?_ _) | (with_reducible refine bthen ?_ (by assumption) ?_) | go_size)
  · have kB := fun w => f6big_any a n c true (by simp; omega) w
    clear hr hl
    go_enter Tryd.func5, Tryd.ntmps5
    go_wp2_with fail
    apply Calls.mono
    · with_reducible exact kB _
    rintro _ w1 ⟨rfl, bel1⟩
    go_wp2
    go_ret
    refine ⟨by first | rfl | (simp), ?_⟩
    repeat' (first | (with_reducible exact Below.refl _ _) | (with_reducible assumption) | (with_reducible refine Below.alloc ?_ ?_ _) | (with_reducible refine Below.drew ?_) | (with_reducible refine bdrewN ?_ _) | (with_reducible refine Below.setCell ?_ ?_ _) | (with_reducible refine bthen ?_ (by assumption) ?_) | go_size)
theorem door_FnFarey (os : Os) (args : Array Value) : laidMetH Tryd.prog Rows.fnFareyRow.laid ((World.doorLaid Tryd.prog 72 os).forCall (fun _ _ => 0) ⟨#[], args, []⟩).memory :=
  laidMetH_of_parts3 (fuel := 8) (laidMet_of_run' 8 (by kernel_rfl) (by kernel_rfl)) (by kernel_rfl) (by kernel_rfl)
set_option maxRecDepth 100000 in
theorem lifted_FnFarey (os : Os) (started : os.Started) (H : Type) (enc : TypeId × Value → H) :
    ReturnsInHanded {} Tryd.checked os 5 .any (fun w args => (Rows.fnFareySpec.pre enc Tryd.prog Tryd.f5 [] false w args ∧ laidMetH Tryd.prog Rows.fnFareyRow.laid w) ∧ sizedMet enc Tryd.prog Tryd.f5 (OpenSpec.ofChange Rows.fnFareySpec) false w args) (Rows.fnFareySpec.post enc Tryd.prog Tryd.f5 false true false false) := by
  refine returnsInHanded_of_change_and (C := Tryd.checked) (X := fun w _ => laidMetH Tryd.prog Rows.fnFareyRow.laid w) (fun _ _ _ hh h => h.of_heap hh) own started (by kernel_rfl) Tryd.func5
    (ChangeSpec.witness_shaped (enc := enc) (C := Tryd.checked) (os := os) (X := fun w _ => laidMetH Tryd.prog Rows.fnFareyRow.laid w) false (World.doorLaid Tryd.prog 72 os) #[.slice none 0 0] 8 rfl (World.shaped_of_RefB (by kernel_rfl) (by kernel_rfl)) (by kernel_rfl) (by kernel_rfl) (by kernel_rfl) (door_FnFarey os _)) ?_
  intro W base args ds gs before hval0 hW _ _ hL _
  have htb : Tb W := tb_of_laid hL (by kernel_rfl) (by kernel_rfl)
  have hval : ∀ (j : Nat) t v, Tryd.f5.params[j]? = some t → args[j]? = some v → Value.okWide Tryd.prog W .any base t v := hval0
  have hW' := hW
  obtain ⟨p, q, hA0, hV, rfl, hfz, hnd⟩ := hW
  have hA : DataW.TrodAll enc Tryd.prog W 0 (fun _ => true) true Tryd.f5.params.toList args.toList ds p := hA0
  rw [Tryd.params5] at hA hval
  obtain ⟨v0, vs0, d0, ds0, p0, q0, hargs, rfl, rfl, h0, r0⟩ := trodAll_cons hA
  obtain ⟨rfl, rfl, rfl⟩ := trodAll_nil r0
  obtain rfl : args = #[v0] := by cases args; simp_all
  obtain ⟨rfl, rfl⟩ := trodVars_none hV
  have k0 := h0
  have lt0 : ∀ x ∈ p0, x.block < W.heap.size := by obtain ⟨m, hm⟩ := k0; exact DataW.trod_lt m _ _ _ hm
  obtain ⟨a0, len0, cap0, rfl⟩ := okWide_slice Tryd.underlying33 (hval 0 33 v0 rfl rfl)
  obtain ⟨z0, ir0⟩ : ∃ zs, IsRow .u8 W a0 len0 cap0 zs := by
    obtain ⟨fuel, hf⟩ := h0
    rcases open_ints Tryd.underlying33 Tryd.underlying5 (by kernel_rfl) hf with ⟨hcs, _⟩ | ⟨x, l, c, zs, hcs, _, hl, hm, hz, _, hcell, hwz⟩
    · simp [Value.cells] at hcs
      obtain ⟨rfl, rfl, rfl⟩ := hcs
      exact ⟨[], .inl ⟨rfl, rfl, rfl, rfl⟩⟩
    · simp [Value.cells] at hcs
      obtain ⟨rfl, rfl, rfl⟩ := hcs
      exact ⟨zs, .inr ⟨_, rfl, hl, hm, by simpa using hz, hcell, hwz⟩⟩
  clear hA0 hval0
  refine (walk_FnFarey a0 len0 cap0 z0 W htb ir0).mono fun e W' ⟨he, bel⟩ => ?_
  subst he
  exact ⟨_, rfl, _, _, _, [], _, [], hW', trodAll_mk1 (shut_bool Tryd.underlying4 _), (trodAll_cons_mk (Below.trod laidOut (by kernel_rfl) (of_decide_eq_true (by kernel_rfl)) k0 bel lt0) trodAll_mk0), rfl, bel.frame _, fun h => by cases h⟩
theorem over_FnFarey : Rows.fnFareyRow.holds Tryd.pinned (OpenSpec.ofChange Rows.fnFareySpec) :=
  OpenClaim.holds_of_wide 5 Tryd.f5 rfl rfl rfl rfl rfl rfl rfl ⟨rfl, rfl, rfl, rfl, rfl⟩ rfl rfl rfl rfl rfl (by kernel_rfl) Tryd.func5 (by kernel_rfl)
    (of_decide_eq_true (by kernel_rfl)) (by unfold Func.isWrapper; first | (rw [if_pos (by decide +kernel)]; kernel_rfl) | (rw [if_neg (by decide +kernel)]; exact ⟨rfl, rfl⟩))
    (fun os started H enc _ => lifted_FnFarey os started H enc)
/-- The tied card. -/
theorem holds_FnFarey : Rows.FnFareyCardSaid :=
  Claim7.holds_tied_plain_at .later [] Rows.fnFareyCard.laidKinds true Rows.fnFareyCard.stood.harness true
    over_FnFarey (fun _ h => by cases h) (by kernel_rfl) (fun _ h => by cases h) fnFarey_row_tie rfl ⟨rfl, rfl⟩ (by kernel_rfl) (by kernel_rfl)
    (fun f fn hf hfn => by
      obtain rfl : f = 5 := Option.some.inj ((show Tryd.prog.funcNamed Rows.fnFareyRow.func = some 5 by kernel_rfl).symm.trans hf) |>.symm
      obtain rfl : fn = Tryd.f5 := (Option.some.inj (Tryd.func5.symm.trans hfn)).symm
      refine ⟨by kernel_rfl, fun j t ht => ?_⟩
      have hall : (Tryd.f5.params.toList.all fun u => !Tryd.prog.wantsStandIn u) = true := by kernel_rfl
      have hm : t ∈ Tryd.f5.params.toList := by
        rw [← Array.getElem?_toList] at ht
        exact List.mem_of_getElem? ht
      exact (show Tryd.prog.wantsStandIn t = false by simpa using List.all_eq_true.1 hall t hm))
    (by kernel_rfl)
#print axioms holds_FnFarey

end Go.Proofs.YtlmmpeeacjbobaaDoor
