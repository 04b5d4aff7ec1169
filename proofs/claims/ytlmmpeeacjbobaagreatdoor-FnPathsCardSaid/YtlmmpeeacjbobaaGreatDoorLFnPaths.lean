/-
  For all bytes the law FnPaths answers true: a path's text reads back, both packages read alike, and a row of the tree is whole, on its level and increasing. Conditions: the library's tables and sentinels hold what its text lays in them (the card ties this to the text). Printed by mkpaths.py.
-/
import Derived.Test.YtlmmpeeacjbobaaGreatDoorMs2
import Derived.Test.YtlmmpeeacjbobaaGreatDoorDraw2
import Derived.Test.YtlmmpeeacjbobaaGreatDoorCardR
import Derived.ShutString
namespace Go.Proofs.YtlmmpeeacjbobaaGreatDoor
open Go.ChangeShapes Go.WideShapes Go.ChangeAt Go.RowKit Go.Joins
open Go.ChangeMaps (open_string shut_string)
set_option linter.unusedVariables false

/-- What the law asks of a row. -/
structure RowX (rs : List (Int × Int)) (l : Int) : Prop where
  el : ∀ (i : Nat) (x : Int × Int), rs[i]? = some x → okF x.1 x.2 = true ∧ posC x.1 x.2 = 0 ∧ (ptP x.1 x.2).sum = l
  up : ∀ (i : Nat) (a b : Int × Int), rs[i]? = some a → rs[i + 1]? = some b → a.1 * b.2 < b.1 * a.2
theorem rt_facts {l : Int} (h : (rtM l).2 = 0) : RowX (rtM l).1 l := by
  unfold rtM at h ⊢
  cases hI : inB l 0 10
  · rw [hI] at h; simp at h
  · obtain ⟨l0, l1⟩ := inB_iff.1 hI
    have := row_facts (l := l.toNat) (by omega)
    simp only [if_true]
    refine ⟨fun i x hx => ?_, this.2⟩
    obtain ⟨a, b, c⟩ := this.1 i x hx
    exact ⟨a, b, by rw [c]; omega⟩
def PhR (W : World) (N : Nat) (k : Nat) (v : Value) (wr : World) : Prop := ∃ j : Nat, j ≤ N ∧ N ≤ j + k ∧ v = .int .i64 (j : Nat) ∧ Below W.heap.size W wr
set_option maxHeartbeats 16000000 in
set_option maxRecDepth 100000 in
theorem walk_FnPaths (a : Option Addr) (n c : Nat) (zs : List Int) (w : World) (hw : Rw w) (hr : IsRow .u8 w a n c zs) :
    Calls Tryz.prog 3 #[.slice a n c] w (Ret w (.bool true)) := by
  by_cases hl : n ≤ 4096
  · have hrd := byteRd_of_row hr
    have kB := fun w => f6big_any a n c false (by simp [hl]) w
    have HRD := Lib.hid (fun w' (hb : Below w.heap.size w w') => hrd.below hb)
    have HW := Lib.hid (fun w' (hb : Below w.heap.size w w') => hw.below hb)
    have hn5 : n ≤ 100000 := by omega
    clear hr hrd hw
    go_enter Tryz.func3, Tryz.ntmps3
    go_wp2_with fail
    apply Calls.mono
    · with_reducible exact kB _
    rintro _ w1 ⟨rfl, V1⟩
    clear kB
    go_wp2_with fail
    apply Calls.mono
    · with_reducible exact drawPathText_any _ _ _ _ hn5 (HRD.out w1 V1)
    rintro _ w2 ⟨v2, xs, rfl, hxl, hown, hb2⟩
    have V2 := bthen V1 hb2 V1.size
    have A2 := Rd.of_own hown
    obtain ⟨a2, c2, rfl⟩ := own_sliceR hown
    have hsz := pt_size hxl
    have hbk := pt_back xs
    have hne := pt_ne xs
    have kT := fun w' h k => pathTextI_any (.slice a2 xs.length c2) xs.length xs w' h k (by omega)
    have kT2 := fun w' k => pathTextS_any (.slice a2 xs.length c2) xs.length xs w' k (by omega)
    have kR := fun w' h => readPathI_any (ptO xs) (by omega) w' h
    rw [hbk] at kR
    clear V1 hb2 hown hbk
    generalize ptO xs = T at *
    cases hk : okR xs
    · rw [hk] at hne kR
      have hne : T.toList.isEmpty = true := hne
      rw [if_neg (by decide)] at kR
      unfold RetRd at kR
      simp only [Option.isSome_none, Option.getD_none, List.length_nil] at kR
      clear hk
      have tb2 := (HW.out _ V2).1
      go_wp2_with fail
      apply Calls.mono
      · with_reducible exact kT _ tb2 A2
      rintro _ w3 ⟨rfl, hb3⟩
      have V3 := bthen V2 hb3 V2.size
      have A3 := A2.below hb3 (Nat.le_refl _)
      clear V2 hb3 A2
      clear kT
      go_wp2_with fail
      apply Calls.mono
      · with_reducible exact kR _ (HW.out _ V3)
      rintro _ w4 ⟨v4, rfl, h4, hb4⟩
      have V4 := bthen V3 hb4 V3.size
      have A4 := A3.below hb4 (Nat.le_refl _)
      clear V3 hb4 A3
      clear kR
      have B4 := Rd.of_own h4
      obtain ⟨aB, cB, rfl⟩ := own_sliceR h4
      clear h4
      go_wp2_with fail
      apply Calls.mono
      · with_reducible exact drawReadPath_any _ _ _ _ hn5 (HRD.out _ V4)
      rintro _ w5 ⟨S, rfl, hS, hb5⟩
      have V5 := bthen V4 hb5 V4.size
      have A5 := A4.below hb5 (Nat.le_refl _)
      have B5 := B4.below hb5 (Nat.le_refl _)
      clear V4 hb5 A4 B4
      have kI := fun w' h => readPathI_any S (by omega) w' h
      have kS := fun w' => readPathS_any S (by omega) w'
      unfold RetRd at kI kS
      generalize (rpS S.data.toList).isSome = b at *
      generalize (rpS S.data.toList).getD [] = ys at *
      go_wp2_with fail
      apply Calls.mono
      · with_reducible exact kI _ (HW.out _ V5)
      rintro _ w6 ⟨v6, rfl, h6, hb6⟩
      have V6 := bthen V5 hb6 V5.size
      have A6 := A5.below hb6 (Nat.le_refl _)
      have B6 := B5.below hb6 (Nat.le_refl _)
      clear V5 hb6 A5 B5
      have C6 := Rd.of_own h6
      obtain ⟨aC, cC, rfl⟩ := own_sliceR h6
      clear h6
      go_wp2_with fail
      apply Calls.mono
      · with_reducible exact kS _
      rintro _ w7 ⟨v7, rfl, h7, hb7⟩
      have V7 := bthen V6 hb7 V6.size
      have A7 := A6.below hb7 (Nat.le_refl _)
      have B7 := B6.below hb7 (Nat.le_refl _)
      have C7 := C6.below hb7 (Nat.le_refl _)
      clear V6 hb7 A6 B6 C6
      have D7 := Rd.of_own h7
      obtain ⟨aD, cD, rfl⟩ := own_sliceR h7
      clear h7
      clear kI kS
      go_wp2_with fail
      apply Calls.mono
      · with_reducible exact drawRowOfTree_any _ _ _ _ hn5 (HRD.out _ V7)
      rintro _ w8 ⟨l, rfl, hb8⟩
      have V8 := bthen V7 hb8 V7.size
      have A8 := A7.below hb8 (Nat.le_refl _)
      have B8 := B7.below hb8 (Nat.le_refl _)
      have C8 := C7.below hb8 (Nat.le_refl _)
      have D8 := D7.below hb8 (Nat.le_refl _)
      clear V7 hb8 A7 B7 C7 D7
      have kI := fun w' => rowOfTreeI_any l w'
      have kS := fun w' => rowOfTreeS_any l w'
      have hF := @rt_facts l
      unfold RetRow2 at kI kS
      generalize (rtM l).1 = rs at *
      generalize (rtM l).2 = cd at *
      have HF := Lib.hid hF
      clear hF HRD HW
      go_wp2_with fail
      apply Calls.mono
      · with_reducible exact kI _
      rintro _ w9 ⟨v9, rfl, h9, hb9⟩
      have V9 := bthen V8 hb9 V8.size
      have A9 := A8.below hb9 (Nat.le_refl _)
      have B9 := B8.below hb9 (Nat.le_refl _)
      have C9 := C8.below hb9 (Nat.le_refl _)
      have D9 := D8.below hb9 (Nat.le_refl _)
      clear V8 hb9 A8 B8 C8 D8
      have E9 := Rd.of_own h9
      obtain ⟨aE, cE, rfl⟩ := own_sliceR h9
      clear h9
      go_wp2_with fail
      apply Calls.mono
      · with_reducible exact kS _
      rintro _ w10 ⟨v10, rfl, h10, hb10⟩
      have V10 := bthen V9 hb10 V9.size
      have A10 := A9.below hb10 (Nat.le_refl _)
      have B10 := B9.below hb10 (Nat.le_refl _)
      have C10 := C9.below hb10 (Nat.le_refl _)
      have D10 := D9.below hb10 (Nat.le_refl _)
      have E10 := E9.below hb10 (Nat.le_refl _)
      clear V9 hb10 A9 B9 C9 D9 E9
      have F10 := Rd.of_own h10
      obtain ⟨aF, cF, rfl⟩ := own_sliceR h10
      clear h10
      clear kI kS
      go_wp2_with fail
      apply Calls.mono
      · with_reducible exact kT2 _ A10
      rintro _ w11 ⟨rfl, hb11⟩
      have V11 := bthen V10 hb11 V10.size
      have A11 := A10.below hb11 (Nat.le_refl _)
      have B11 := B10.below hb11 (Nat.le_refl _)
      have C11 := C10.below hb11 (Nat.le_refl _)
      have D11 := D10.below hb11 (Nat.le_refl _)
      have E11 := E10.below hb11 (Nat.le_refl _)
      have F11 := F10.below hb11 (Nat.le_refl _)
      clear V10 hb11 A10 B10 C10 D10 E10 F10
      clear kT2
      clear A11 B11
      go_wp2_with fail
      apply Calls.mono
      · with_reducible exact f6ints_same _ _ _ _ _ C11 D11
      rintro _ w12 ⟨rfl, hb12⟩
      have V12 := bthen V11 hb12 V11.size
      have E12 := E11.below hb12 (Nat.le_refl _)
      have F12 := F11.below hb12 (Nat.le_refl _)
      clear V11 hb12 E11 F11
      clear C11 D11
      go_wp2_with fail
      apply Calls.mono
      · with_reducible exact f6fractions_same _ _ _ _ _ E12 F12
      rintro _ w13 ⟨rfl, hb13⟩
      have V13 := bthen V12 hb13 V12.size
      have F13 := F12.below hb13 (Nat.le_refl _)
      clear V12 hb13 F12
      clear E12
      by_cases hc0 : cd = 0
      · have X := HF.out hc0
        have HE := Lib.hid X.el
        have HU := Lib.hid X.up
        subst hc0
        obtain ⟨hl1, hm1⟩ := rd_len F13
        rw [prs_len] at hl1
        obtain ⟨A, cc, hAe, hn1, hc1, _, hr1⟩ := F13
        injection hAe with hA1 _ hA2
        subst hA1 hA2
        have R1 := Lib.hid hr1
        clear hr1 X HF
        go_wp2_with fail
        go_loopg [17] rs.length (PhR w13 rs.length)
        case atStart => exact ⟨0, by omega, by omega, rfl, Below.refl _ _⟩
        case round =>
          obtain ⟨j, hj1, hj2, rfl, hbw⟩ := hrel
          have hs := hbw.size
          by_cases hjn : j < rs.length
          · have hjn' : (j : Int) < (rs.length : Int) := by omega
            obtain ⟨⟨y1, y2⟩, hy⟩ := get_ex (l := rs) (k := j) hjn
            obtain ⟨i1, i2⟩ := prs_get hy
            obtain ⟨e1, e2, e3⟩ := HE.out j _ hy
            simp only at i1 i2 e1 e2 e3
            rcases R1.out with h0 | ⟨g, o, rfl, hg, hcell⟩
            · omega
            have c1 : wr.cell? ⟨g, o + j * 2, none⟩ = some (.int .i64 y1) := (hbw.cell (p := ⟨g, o + j * 2, none⟩) hg).trans (hcell (j * 2) _ i1)
            have c2 : wr.cell? ⟨g, o + j * 2 + 1, none⟩ = some (.int .i64 y2) := (hbw.cell (p := ⟨g, o + j * 2 + 1, none⟩) hg).trans (hcell (j * 2 + 1) _ i2)
            have hgw : g < wr.heap.size := by omega
            have kL := fun w => levelI_any y1 y2 w
            rw [e2, e3] at kL
            have HC := Lib.hid hcell
            clear hcell i1 i2 e2 e3 R1
            go_wp2_with fail
            apply Calls.mono
            · with_reducible exact kL _
            rintro _ wl ⟨rfl, hbl⟩
            have bl := bthen hbw hbl hs
            have sl := bl.size
            have c3 := (hbl.cell (p := ⟨g, o + j * 2, none⟩) hgw).trans c1
            have c4 := (hbl.cell (p := ⟨g, o + j * 2 + 1, none⟩) hgw).trans c2
            have hgw2 : g < wl.heap.size := by omega
            clear c1 c2 kL hbl
            cases j with
            | zero =>
              go_wp2
              go_roundg (gk - 1)
              case measure => omega
              case rel => exact ⟨0 + 1, by omega, by omega, by go_num, bl⟩
            | succ j =>
              obtain ⟨⟨x1, x2⟩, hx⟩ := get_ex (l := rs) (k := j) (by omega)
              obtain ⟨i1, i2⟩ := prs_get hx
              obtain ⟨d1, _, _⟩ := HE.out j _ hx
              have hup := HU.out j _ _ hx hy
              simp only at i1 i2 d1 hup
              have c5 : wl.cell? ⟨g, o + j * 2, none⟩ = some (.int .i64 x1) := (bl.cell (p := ⟨g, o + j * 2, none⟩) hg).trans (HC.out (j * 2) _ i1)
              have c6 : wl.cell? ⟨g, o + j * 2 + 1, none⟩ = some (.int .i64 x2) := (bl.cell (p := ⟨g, o + j * 2 + 1, none⟩) hg).trans (HC.out (j * 2 + 1) _ i2)
              have e4 : ((j + 1 : Nat) : Int) - 1 = (j : Int) := by omega
              have e5 : (j : Int) < (rs.length : Int) := by omega
              have e6 : (0 : Int) < ((j + 1 : Nat) : Int) := by omega
              have kC := fun w => compareFI_any x1 x2 y1 y2 d1 e1 w
              rw [show cmpF (x1 * y2) (y1 * x2) = -1 by unfold cmpF; rw [if_pos hup]] at kC
              clear hx hy i1 i2 d1 e1 hup
              go_wp2_with fail
              refine wp_region_calm (by kernel_rfl) (by kernel_rfl) ?_
              repeat (go_big_quiet_step ((first | with_reducible exact calm (kC _))))
              refine wpQuiet_nil ?_
              intro wc hb_wc
              obtain ⟨hc_wc, hf_wc, hs_wc⟩ := bcell hb_wc
              try simp at hs_wc
              have bc := bthen bl hb_wc sl
              go_wp2
              go_roundg (gk - 1)
              case measure => omega
              case rel => exact ⟨j + 1 + 1, by omega, by omega, by go_num, bc⟩
          · obtain rfl : j = rs.length := by omega
            have bel := bthen V13 hbw V13.size
            go_wp2
            go_ret
            refine ⟨by first | rfl | (simp), ?_⟩
            repeat' (first | (with_reducible exact Below.refl _ _) | (with_reducible assumption) | (with_reducible refine Below.alloc ?_ ?_ _) | (with_reducible refine Below.drew ?_) | (with_reducible refine bdrewN ?_ _) | (with_reducible refine Below.setCell ?_ ?_ _) | (with_reducible refine bthen ?_ (by assumption) ?_) | go_size)
      · have hcd : (cd != 0) = true := by simp [hc0]
        go_wp2
        go_ret
        refine ⟨by first | rfl | (simp), ?_⟩
        repeat' (first | (with_reducible exact Below.refl _ _) | (with_reducible assumption) | (with_reducible refine Below.alloc ?_ ?_ _) | (with_reducible refine Below.drew ?_) | (with_reducible refine bdrewN ?_ _) | (with_reducible refine Below.setCell ?_ ?_ _) | (with_reducible refine bthen ?_ (by assumption) ?_) | go_size)
    · rw [hk] at hne kR
      have hne : T.toList.isEmpty = false := hne
      rw [if_pos rfl] at kR
      unfold RetRd at kR
      simp only [Option.isSome_some, Option.getD_some] at kR
      clear hk
      have tb2 := (HW.out _ V2).1
      go_wp2_with fail
      apply Calls.mono
      · with_reducible exact kT _ tb2 A2
      rintro _ w3 ⟨rfl, hb3⟩
      have V3 := bthen V2 hb3 V2.size
      have A3 := A2.below hb3 (Nat.le_refl _)
      clear V2 hb3 A2
      clear kT
      go_wp2_with fail
      apply Calls.mono
      · with_reducible exact kR _ (HW.out _ V3)
      rintro _ w4 ⟨v4, rfl, h4, hb4⟩
      have V4 := bthen V3 hb4 V3.size
      have A4 := A3.below hb4 (Nat.le_refl _)
      clear V3 hb4 A3
      clear kR
      have B4 := Rd.of_own h4
      obtain ⟨aB, cB, rfl⟩ := own_sliceR h4
      clear h4
      go_wp2_with fail
      apply Calls.mono
      · with_reducible exact drawReadPath_any _ _ _ _ hn5 (HRD.out _ V4)
      rintro _ w5 ⟨S, rfl, hS, hb5⟩
      have V5 := bthen V4 hb5 V4.size
      have A5 := A4.below hb5 (Nat.le_refl _)
      have B5 := B4.below hb5 (Nat.le_refl _)
      clear V4 hb5 A4 B4
      have kI := fun w' h => readPathI_any S (by omega) w' h
      have kS := fun w' => readPathS_any S (by omega) w'
      unfold RetRd at kI kS
      generalize (rpS S.data.toList).isSome = b at *
      generalize (rpS S.data.toList).getD [] = ys at *
      go_wp2_with fail
      apply Calls.mono
      · with_reducible exact kI _ (HW.out _ V5)
      rintro _ w6 ⟨v6, rfl, h6, hb6⟩
      have V6 := bthen V5 hb6 V5.size
      have A6 := A5.below hb6 (Nat.le_refl _)
      have B6 := B5.below hb6 (Nat.le_refl _)
      clear V5 hb6 A5 B5
      have C6 := Rd.of_own h6
      obtain ⟨aC, cC, rfl⟩ := own_sliceR h6
      clear h6
      go_wp2_with fail
      apply Calls.mono
      · with_reducible exact kS _
      rintro _ w7 ⟨v7, rfl, h7, hb7⟩
      have V7 := bthen V6 hb7 V6.size
      have A7 := A6.below hb7 (Nat.le_refl _)
      have B7 := B6.below hb7 (Nat.le_refl _)
      have C7 := C6.below hb7 (Nat.le_refl _)
      clear V6 hb7 A6 B6 C6
      have D7 := Rd.of_own h7
      obtain ⟨aD, cD, rfl⟩ := own_sliceR h7
      clear h7
      clear kI kS
      go_wp2_with fail
      apply Calls.mono
      · with_reducible exact drawRowOfTree_any _ _ _ _ hn5 (HRD.out _ V7)
      rintro _ w8 ⟨l, rfl, hb8⟩
      have V8 := bthen V7 hb8 V7.size
      have A8 := A7.below hb8 (Nat.le_refl _)
      have B8 := B7.below hb8 (Nat.le_refl _)
      have C8 := C7.below hb8 (Nat.le_refl _)
      have D8 := D7.below hb8 (Nat.le_refl _)
      clear V7 hb8 A7 B7 C7 D7
      have kI := fun w' => rowOfTreeI_any l w'
      have kS := fun w' => rowOfTreeS_any l w'
      have hF := @rt_facts l
      unfold RetRow2 at kI kS
      generalize (rtM l).1 = rs at *
      generalize (rtM l).2 = cd at *
      have HF := Lib.hid hF
      clear hF HRD HW
      go_wp2_with fail
      apply Calls.mono
      · with_reducible exact kI _
      rintro _ w9 ⟨v9, rfl, h9, hb9⟩
      have V9 := bthen V8 hb9 V8.size
      have A9 := A8.below hb9 (Nat.le_refl _)
      have B9 := B8.below hb9 (Nat.le_refl _)
      have C9 := C8.below hb9 (Nat.le_refl _)
      have D9 := D8.below hb9 (Nat.le_refl _)
      clear V8 hb9 A8 B8 C8 D8
      have E9 := Rd.of_own h9
      obtain ⟨aE, cE, rfl⟩ := own_sliceR h9
      clear h9
      go_wp2_with fail
      apply Calls.mono
      · with_reducible exact kS _
      rintro _ w10 ⟨v10, rfl, h10, hb10⟩
      have V10 := bthen V9 hb10 V9.size
      have A10 := A9.below hb10 (Nat.le_refl _)
      have B10 := B9.below hb10 (Nat.le_refl _)
      have C10 := C9.below hb10 (Nat.le_refl _)
      have D10 := D9.below hb10 (Nat.le_refl _)
      have E10 := E9.below hb10 (Nat.le_refl _)
      clear V9 hb10 A9 B9 C9 D9 E9
      have F10 := Rd.of_own h10
      obtain ⟨aF, cF, rfl⟩ := own_sliceR h10
      clear h10
      clear kI kS
      go_wp2_with fail
      apply Calls.mono
      · with_reducible exact kT2 _ A10
      rintro _ w11 ⟨rfl, hb11⟩
      have V11 := bthen V10 hb11 V10.size
      have A11 := A10.below hb11 (Nat.le_refl _)
      have B11 := B10.below hb11 (Nat.le_refl _)
      have C11 := C10.below hb11 (Nat.le_refl _)
      have D11 := D10.below hb11 (Nat.le_refl _)
      have E11 := E10.below hb11 (Nat.le_refl _)
      have F11 := F10.below hb11 (Nat.le_refl _)
      clear V10 hb11 A10 B10 C10 D10 E10 F10
      clear kT2
      go_wp2_with fail
      apply Calls.mono
      · with_reducible exact f6ints_same _ _ _ _ _ B11 A11
      rintro _ w12 ⟨rfl, hb12⟩
      have V12 := bthen V11 hb12 V11.size
      have C12 := C11.below hb12 (Nat.le_refl _)
      have D12 := D11.below hb12 (Nat.le_refl _)
      have E12 := E11.below hb12 (Nat.le_refl _)
      have F12 := F11.below hb12 (Nat.le_refl _)
      clear V11 hb12 C11 D11 E11 F11
      clear A11 B11
      go_wp2_with fail
      apply Calls.mono
      · with_reducible exact f6ints_same _ _ _ _ _ C12 D12
      rintro _ w13 ⟨rfl, hb13⟩
      have V13 := bthen V12 hb13 V12.size
      have E13 := E12.below hb13 (Nat.le_refl _)
      have F13 := F12.below hb13 (Nat.le_refl _)
      clear V12 hb13 E12 F12
      clear C12 D12
      go_wp2_with fail
      apply Calls.mono
      · with_reducible exact f6fractions_same _ _ _ _ _ E13 F13
      rintro _ w14 ⟨rfl, hb14⟩
      have V14 := bthen V13 hb14 V13.size
      have F14 := F13.below hb14 (Nat.le_refl _)
      clear V13 hb14 F13
      clear E13
      by_cases hc0 : cd = 0
      · have X := HF.out hc0
        have HE := Lib.hid X.el
        have HU := Lib.hid X.up
        subst hc0
        obtain ⟨hl1, hm1⟩ := rd_len F14
        rw [prs_len] at hl1
        obtain ⟨A, cc, hAe, hn1, hc1, _, hr1⟩ := F14
        injection hAe with hA1 _ hA2
        subst hA1 hA2
        have R1 := Lib.hid hr1
        clear hr1 X HF
        go_wp2_with fail
        go_loopg [17] rs.length (PhR w14 rs.length)
        case atStart => exact ⟨0, by omega, by omega, rfl, Below.refl _ _⟩
        case round =>
          obtain ⟨j, hj1, hj2, rfl, hbw⟩ := hrel
          have hs := hbw.size
          by_cases hjn : j < rs.length
          · have hjn' : (j : Int) < (rs.length : Int) := by omega
            obtain ⟨⟨y1, y2⟩, hy⟩ := get_ex (l := rs) (k := j) hjn
            obtain ⟨i1, i2⟩ := prs_get hy
            obtain ⟨e1, e2, e3⟩ := HE.out j _ hy
            simp only at i1 i2 e1 e2 e3
            rcases R1.out with h0 | ⟨g, o, rfl, hg, hcell⟩
            · omega
            have c1 : wr.cell? ⟨g, o + j * 2, none⟩ = some (.int .i64 y1) := (hbw.cell (p := ⟨g, o + j * 2, none⟩) hg).trans (hcell (j * 2) _ i1)
            have c2 : wr.cell? ⟨g, o + j * 2 + 1, none⟩ = some (.int .i64 y2) := (hbw.cell (p := ⟨g, o + j * 2 + 1, none⟩) hg).trans (hcell (j * 2 + 1) _ i2)
            have hgw : g < wr.heap.size := by omega
            have kL := fun w => levelI_any y1 y2 w
            rw [e2, e3] at kL
            have HC := Lib.hid hcell
            clear hcell i1 i2 e2 e3 R1
            go_wp2_with fail
            apply Calls.mono
            · with_reducible exact kL _
            rintro _ wl ⟨rfl, hbl⟩
            have bl := bthen hbw hbl hs
            have sl := bl.size
            have c3 := (hbl.cell (p := ⟨g, o + j * 2, none⟩) hgw).trans c1
            have c4 := (hbl.cell (p := ⟨g, o + j * 2 + 1, none⟩) hgw).trans c2
            have hgw2 : g < wl.heap.size := by omega
            clear c1 c2 kL hbl
            cases j with
            | zero =>
              go_wp2
              go_roundg (gk - 1)
              case measure => omega
              case rel => exact ⟨0 + 1, by omega, by omega, by go_num, bl⟩
            | succ j =>
              obtain ⟨⟨x1, x2⟩, hx⟩ := get_ex (l := rs) (k := j) (by omega)
              obtain ⟨i1, i2⟩ := prs_get hx
              obtain ⟨d1, _, _⟩ := HE.out j _ hx
              have hup := HU.out j _ _ hx hy
              simp only at i1 i2 d1 hup
              have c5 : wl.cell? ⟨g, o + j * 2, none⟩ = some (.int .i64 x1) := (bl.cell (p := ⟨g, o + j * 2, none⟩) hg).trans (HC.out (j * 2) _ i1)
              have c6 : wl.cell? ⟨g, o + j * 2 + 1, none⟩ = some (.int .i64 x2) := (bl.cell (p := ⟨g, o + j * 2 + 1, none⟩) hg).trans (HC.out (j * 2 + 1) _ i2)
              have e4 : ((j + 1 : Nat) : Int) - 1 = (j : Int) := by omega
              have e5 : (j : Int) < (rs.length : Int) := by omega
              have e6 : (0 : Int) < ((j + 1 : Nat) : Int) := by omega
              have kC := fun w => compareFI_any x1 x2 y1 y2 d1 e1 w
              rw [show cmpF (x1 * y2) (y1 * x2) = -1 by unfold cmpF; rw [if_pos hup]] at kC
              clear hx hy i1 i2 d1 e1 hup
              go_wp2_with fail
              refine wp_region_calm (by kernel_rfl) (by kernel_rfl) ?_
              repeat (go_big_quiet_step ((first | with_reducible exact calm (kC _))))
              refine wpQuiet_nil ?_
              intro wc hb_wc
              obtain ⟨hc_wc, hf_wc, hs_wc⟩ := bcell hb_wc
              try simp at hs_wc
              have bc := bthen bl hb_wc sl
              go_wp2
              go_roundg (gk - 1)
              case measure => omega
              case rel => exact ⟨j + 1 + 1, by omega, by omega, by go_num, bc⟩
          · obtain rfl : j = rs.length := by omega
            have bel := bthen V14 hbw V14.size
            go_wp2
            go_ret
            refine ⟨by first | rfl | (simp), ?_⟩
            repeat' (first | (with_reducible exact Below.refl _ _) | (with_reducible assumption) | (with_reducible refine Below.alloc ?_ ?_ _) | (with_reducible refine Below.drew ?_) | (with_reducible refine bdrewN ?_ _) | (with_reducible refine Below.setCell ?_ ?_ _) | (with_reducible refine bthen ?_ (by assumption) ?_) | go_size)
      · have hcd : (cd != 0) = true := by simp [hc0]
        go_wp2
        go_ret
        refine ⟨by first | rfl | (simp), ?_⟩
        repeat' (first | (with_reducible exact Below.refl _ _) | (with_reducible assumption) | (with_reducible refine Below.alloc ?_ ?_ _) | (with_reducible refine Below.drew ?_) | (with_reducible refine bdrewN ?_ _) | (with_reducible refine Below.setCell ?_ ?_ _) | (with_reducible refine bthen ?_ (by assumption) ?_) | go_size)
  · have kB := fun w => f6big_any a n c true (by simp; omega) w
    clear hr hl hw
    go_enter Tryz.func3, Tryz.ntmps3
    go_wp2_with fail
    apply Calls.mono
    · with_reducible exact kB _
    rintro _ w1 ⟨rfl, V1⟩
    go_wp2
    go_ret
    refine ⟨by first | rfl | (simp), ?_⟩
    repeat' (first | (with_reducible exact Below.refl _ _) | (with_reducible assumption) | (with_reducible refine Below.alloc ?_ ?_ _) | (with_reducible refine Below.drew ?_) | (with_reducible refine bdrewN ?_ _) | (with_reducible refine Below.setCell ?_ ?_ _) | (with_reducible refine bthen ?_ (by assumption) ?_) | go_size)
set_option maxRecDepth 100000 in
theorem lifted_FnPaths (os : Os) (started : os.Started) (H : Type) (enc : TypeId × Value → H) :
    ReturnsInHanded {} Tryz.checked os 3 .any (fun w args => (Rows.fnPathsSpec.pre enc Tryz.prog Tryz.f3 [] false w args ∧ laidMetH Tryz.prog Rows.fnPathsRow.laid w) ∧ sizedMet enc Tryz.prog Tryz.f3 (OpenSpec.ofChange Rows.fnPathsSpec) false w args) (Rows.fnPathsSpec.post enc Tryz.prog Tryz.f3 false true false false) := by
  refine wrap_both (C := Tryz.checked) (X := fun w _ => laidMetH Tryz.prog Rows.fnPathsRow.laid w) (fun _ _ _ hh h => h.of_heap hh) own started (by kernel_rfl) Tryz.func3
    (ChangeSpec.witness_shaped (enc := enc) (C := Tryz.checked) (os := os) (X := fun w _ => laidMetH Tryz.prog Rows.fnPathsRow.laid w) false (World.laidAll Tryz.prog os Rows.fnPathsRow.laid) #[.slice none 0 0] 8 (World.laidAll_os _ _ _)
      (World.shaped_of_ZipB (by kernel_rfl) (by kernel_rfl)) (by kernel_rfl) (by kernel_rfl) (by kernel_rfl)
      (by rw [MakeChecks.laidMetH_plain _ _ _ (by kernel_rfl)]; exact laidMet_laidAll _ (by kernel_rfl) (by kernel_rfl))) ?_
  intro W base args ds gs before hval0 hW _ hL hsh
  have hL0 := hL
  rw [MakeChecks.laidMetH_plain _ _ _ (by kernel_rfl)] at hL0
  have htb : Rw W := rw_of_laid (tb_of_laid hL (by kernel_rfl) (by kernel_rfl)) hL0.tail.tail.tail.tail hsh
  have hval : ∀ (j : Nat) t v, Tryz.f3.params[j]? = some t → args[j]? = some v → Value.okWide Tryz.prog W .any base t v := hval0
  have hW' := hW
  obtain ⟨p, q, hA0, hV, rfl, hfz, hnd⟩ := hW
  have hA : DataW.TrodAll enc Tryz.prog W 0 (fun _ => true) true Tryz.f3.params.toList args.toList ds p := hA0
  rw [Tryz.params3] at hA hval
  obtain ⟨v0, vs0, d0, ds0, p0, q0, hargs, rfl, rfl, h0, r0⟩ := trodAll_cons hA
  obtain ⟨rfl, rfl, rfl⟩ := trodAll_nil r0
  obtain rfl : args = #[v0] := by cases args; simp_all
  obtain ⟨rfl, rfl⟩ := trodVars_none hV
  have k0 := h0
  have lt0 : ∀ x ∈ p0, x.block < W.heap.size := by obtain ⟨m, hm⟩ := k0; exact DataW.trod_lt m _ _ _ hm
  obtain ⟨a0, len0, cap0, rfl⟩ := okWide_slice Tryz.underlying22 (hval 0 22 v0 rfl rfl)
  obtain ⟨z0, ir0⟩ : ∃ zs, IsRow .u8 W a0 len0 cap0 zs := by
    obtain ⟨fuel, hf⟩ := h0
    rcases open_ints Tryz.underlying22 Tryz.underlying5 (by kernel_rfl) hf with ⟨hcs, _⟩ | ⟨x, l, c, zs, hcs, _, hl, hm, hz, _, hcell, hwz⟩
    · simp [Value.cells] at hcs
      obtain ⟨rfl, rfl, rfl⟩ := hcs
      exact ⟨[], .inl ⟨rfl, rfl, rfl, rfl⟩⟩
    · simp [Value.cells] at hcs
      obtain ⟨rfl, rfl, rfl⟩ := hcs
      exact ⟨zs, .inr ⟨_, rfl, hl, hm, by simpa using hz, hcell, hwz⟩⟩
  clear hA0 hval0
  refine (walk_FnPaths a0 len0 cap0 z0 W htb ir0).mono fun e W' ⟨he, bel⟩ => ?_
  subst he
  exact ⟨_, rfl, _, _, _, [], _, [], hW', trodAll_mk1 (shut_bool Tryz.underlying4 _), (trodAll_cons_mk (Below.trod laidOut (by kernel_rfl) (of_decide_eq_true (by kernel_rfl)) k0 bel lt0) trodAll_mk0), rfl, bel.frame _, fun h => by cases h⟩
theorem over_FnPaths : Rows.fnPathsRow.holds Tryz.pinned (OpenSpec.ofChange Rows.fnPathsSpec) :=
  OpenClaim.holds_of_wide 3 Tryz.f3 rfl rfl rfl rfl rfl rfl rfl ⟨rfl, rfl, rfl, rfl, rfl⟩ rfl rfl rfl rfl rfl (by kernel_rfl) Tryz.func3 (by kernel_rfl)
    (of_decide_eq_true (by kernel_rfl)) (by unfold Func.isWrapper; first | (rw [if_pos (by decide +kernel)]; kernel_rfl) | (rw [if_neg (by decide +kernel)]; exact ⟨rfl, rfl⟩))
    (fun os started H enc _ => lifted_FnPaths os started H enc)
/-- The tied card. -/
theorem holds_FnPaths : Rows.FnPathsCardSaid :=
  Claim7.holds_tied_plain_at .later [] Rows.fnPathsCard.laidKinds true Rows.fnPathsCard.stood.harness true
    over_FnPaths (fun _ h => by cases h) (by kernel_rfl) (fun _ h => by cases h) fnPaths_row_tie rfl ⟨rfl, rfl⟩ (by kernel_rfl) (by kernel_rfl)
    (fun f fn hf hfn => by
      obtain rfl : f = 3 := Option.some.inj ((show Tryz.prog.funcNamed Rows.fnPathsRow.func = some 3 by kernel_rfl).symm.trans hf) |>.symm
      obtain rfl : fn = Tryz.f3 := (Option.some.inj (Tryz.func3.symm.trans hfn)).symm
      refine ⟨by kernel_rfl, fun j t ht => ?_⟩
      have hall : (Tryz.f3.params.toList.all fun u => !Tryz.prog.wantsStandIn u) = true := by kernel_rfl
      have hm : t ∈ Tryz.f3.params.toList := by
        rw [← Array.getElem?_toList] at ht
        exact List.mem_of_getElem? ht
      exact (show Tryz.prog.wantsStandIn t = false by simpa using List.all_eq_true.1 hall t hm))
    (by kernel_rfl)
#print axioms holds_FnPaths

end Go.Proofs.YtlmmpeeacjbobaaGreatDoor
