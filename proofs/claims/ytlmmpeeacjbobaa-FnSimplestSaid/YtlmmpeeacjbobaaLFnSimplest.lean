/-
  For all bytes the law FnSimplest answers true. Printed by mksimp.py.
-/
import Derived.Test.YtlmmpeeacjbobaaDq
import Derived.Test.YtlmmpeeacjbobaaMs1
import Derived.Test.YtlmmpeeacjbobaaNg
import Derived.Test.YtlmmpeeacjbobaaRn
namespace Go.Proofs.Ytlmmpeeacjbobaa
open Go.ChangeShapes Go.WideShapes Go.ChangeAt Go.RowKit Go.Joins
open Go.ChangeMaps (open_string shut_string)
set_option linter.unusedVariables false

def SimR (W : World) (D : Int) (k : Nat) (i : Value) (wr : World) : Prop :=
  ∃ q : Nat, 1 ≤ q ∧ D ≤ (q : Int) + (k : Int) ∧ (q : Int) ≤ D ∧ i = .int .i64 (q : Int) ∧ Below W.heap.size W wr
set_option maxHeartbeats 16000000 in
set_option maxRecDepth 100000 in
theorem walk_FnSimplest (a : Option Addr) (n c : Nat) (zs : List Int) (w : World) (hr : IsRow .u8 w a n c zs) :
    Calls Try.prog 6 #[.slice a n c] w (Ret w (.bool true)) := by
  by_cases hl : n ≤ 4096
  · have hrd := byteRd_of_row hr
    have kB := fun w => f6big_any a n c false (by simp [hl]) w
    have HRD := Lib.hid (fun w' (hb : Below w.heap.size w w') => hrd.below hb)
    have hn5 : n ≤ 100000 := by omega
    clear hr hrd
    go_enter Try.func6, Try.ntmps6
    go_wp2_with fail
    apply Calls.mono
    · with_reducible exact kB _
    rintro _ w1 ⟨rfl, V1⟩
    have K1 := Kp.nil w1 24
    clear kB
    go_wp2_with fail
    apply Calls.mono
    · with_reducible exact drawSimplest_any _ _ _ _ hn5 (HRD.out w1 V1)
    rintro _ w2 ⟨a1, a2, b1, b2, rfl, hb2⟩
    have K2 := K1.below hb2
    have V2 := bthen V1 hb2 V1.size
    clear K1 V1 hb2
    have kSI := fun w => simplestI_any a1 a2 b1 b2 w
    have kSS := fun w => simplestS_any a1 a2 b1 b2 w
    have hsb := fun h => sb_law (a := a1) (b := a2) (c := b1) (d := b2) h
    generalize (sbM a1 a2 b1 b2).1 = f1 at *
    generalize (sbM a1 a2 b1 b2).2.1 = f2 at *
    generalize (sbM a1 a2 b1 b2).2.2 = fc at *
    have HSB := Lib.hid hsb
    clear hsb
    have K2' := K2.box a1 a2
    have V2' := V2.alloc V2.size (.cells #[.int .i64 a1, .int .i64 a2] 24)
    clear K2 V2
    have K2 := K2'
    have V2 := V2'
    clear K2' V2'
    have K2' := K2.box b1 b2
    rw [World.size_alloc] at K2'
    have V2' := V2.alloc V2.size (.cells #[.int .i64 b1, .int .i64 b2] 24)
    clear K2 V2
    have K2 := K2'
    have V2 := V2'
    clear K2' V2'
    obtain ⟨x2_0a, x2_0b, x2_0c⟩ := K2.at_ 0 rfl
    obtain ⟨x2_1a, x2_1b, x2_1c⟩ := K2.at_ 1 rfl
    go_wp2_with fail
    apply Calls.mono
    · with_reducible exact kSI _
    rintro _ w3 ⟨rfl, hb3⟩
    have K3 := K2.below hb3
    have V3 := bthen V2 hb3 V2.size
    clear x2_0a x2_0b x2_0c x2_1a x2_1b x2_1c
    clear K2 V2 hb3
    have K3' := K3.box f1 f2
    have V3' := V3.alloc V3.size (.cells #[.int .i64 f1, .int .i64 f2] 24)
    clear K3 V3
    have K3 := K3'
    have V3 := V3'
    clear K3' V3'
    obtain ⟨x3_1a, x3_1b, x3_1c⟩ := K3.at_ 1 rfl
    obtain ⟨x3_2a, x3_2b, x3_2c⟩ := K3.at_ 2 rfl
    go_wp2_with fail
    apply Calls.mono
    · with_reducible exact kSS _
    rintro _ w4 ⟨rfl, hb4⟩
    have K4 := K3.below hb4
    have V4 := bthen V3 hb4 V3.size
    clear x3_1a x3_1b x3_1c x3_2a x3_2b x3_2c
    clear K3 V3 hb4
    have K4' := K4.box f1 f2
    have V4' := V4.alloc V4.size (.cells #[.int .i64 f1, .int .i64 f2] 24)
    clear K4 V4
    have K4 := K4'
    have V4 := V4'
    clear K4' V4'
    clear kSI kSS
    go_wp2_with fail
    apply Calls.mono
    · with_reducible exact drawCommon_any _ _ _ _ hn5 (HRD.out _ V4)
    rintro _ w5 ⟨c1, c2, d1, d2, rfl, hb5⟩
    have K5 := K4.below hb5
    have V5 := bthen V4 hb5 V4.size
    clear K4 V4 hb5
    have kCI := fun w => commonI_any c1 c2 d1 d2 w
    have kCS := fun w => commonS_any c1 c2 d1 d2 w
    have hco := fun h => co_law (n := c1) (d := c2) (m := d1) (e := d2) h
    generalize (caC c1 c2 d1 d2).1 = x1 at *
    generalize (caC c1 c2 d1 d2).2.1 = x2 at *
    generalize (caC c1 c2 d1 d2).2.2 = xc at *
    have HCO := Lib.hid hco
    have kOwn := fun w => commonI_any x1 x2 c1 c2 w
    clear hco
    have K5' := K5.box c1 c2
    have V5' := V5.alloc V5.size (.cells #[.int .i64 c1, .int .i64 c2] 24)
    clear K5 V5
    have K5 := K5'
    have V5 := V5'
    clear K5' V5'
    have K5' := K5.box d1 d2
    rw [World.size_alloc] at K5'
    have V5' := V5.alloc V5.size (.cells #[.int .i64 d1, .int .i64 d2] 24)
    clear K5 V5
    have K5 := K5'
    have V5 := V5'
    clear K5' V5'
    obtain ⟨x5_0a, x5_0b, x5_0c⟩ := K5.at_ 0 rfl
    obtain ⟨x5_1a, x5_1b, x5_1c⟩ := K5.at_ 1 rfl
    go_wp2_with fail
    apply Calls.mono
    · with_reducible exact kCI _
    rintro _ w6 ⟨rfl, hb6⟩
    have K6 := K5.below hb6
    have V6 := bthen V5 hb6 V5.size
    clear x5_0a x5_0b x5_0c x5_1a x5_1b x5_1c
    clear K5 V5 hb6
    have K6' := K6.box x1 x2
    have V6' := V6.alloc V6.size (.cells #[.int .i64 x1, .int .i64 x2] 24)
    clear K6 V6
    have K6 := K6'
    have V6 := V6'
    clear K6' V6'
    obtain ⟨x6_1a, x6_1b, x6_1c⟩ := K6.at_ 1 rfl
    obtain ⟨x6_2a, x6_2b, x6_2c⟩ := K6.at_ 2 rfl
    go_wp2_with fail
    apply Calls.mono
    · with_reducible exact kCS _
    rintro _ w7 ⟨rfl, hb7⟩
    have K7 := K6.below hb7
    have V7 := bthen V6 hb7 V6.size
    clear x6_1a x6_1b x6_1c x6_2a x6_2b x6_2c
    clear K6 V6 hb7
    have K7' := K7.box x1 x2
    have V7' := V7.alloc V7.size (.cells #[.int .i64 x1, .int .i64 x2] 24)
    clear K7 V7
    have K7 := K7'
    have V7 := V7'
    clear K7' V7'
    clear kCI kCS
    go_wp2_with fail
    apply Calls.mono
    · with_reducible exact drawIsAnc_any _ _ _ _ hn5 (HRD.out _ V7)
    rintro _ w8 ⟨e1, e2, g1, g2, rfl, hb8⟩
    have K8 := K7.below hb8
    have V8 := bthen V7 hb8 V7.size
    clear K7 V7 hb8
    have kII := fun w => isAncI_any e1 e2 g1 g2 w
    have kIS := fun w => isAncS_any e1 e2 g1 g2 w
    generalize (iaM e1 e2 g1 g2).1 = ib at *
    generalize (iaM e1 e2 g1 g2).2 = ic at *
    have K8' := K8.box e1 e2
    have V8' := V8.alloc V8.size (.cells #[.int .i64 e1, .int .i64 e2] 24)
    clear K8 V8
    have K8 := K8'
    have V8 := V8'
    clear K8' V8'
    have K8' := K8.box g1 g2
    rw [World.size_alloc] at K8'
    have V8' := V8.alloc V8.size (.cells #[.int .i64 g1, .int .i64 g2] 24)
    clear K8 V8
    have K8 := K8'
    have V8 := V8'
    clear K8' V8'
    obtain ⟨x8_0a, x8_0b, x8_0c⟩ := K8.at_ 0 rfl
    obtain ⟨x8_1a, x8_1b, x8_1c⟩ := K8.at_ 1 rfl
    go_wp2_with fail
    apply Calls.mono
    · with_reducible exact kII _
    rintro _ w9 ⟨rfl, hb9⟩
    have K9 := K8.below hb9
    have V9 := bthen V8 hb9 V8.size
    clear x8_0a x8_0b x8_0c x8_1a x8_1b x8_1c
    clear K8 V8 hb9
    obtain ⟨x9_0a, x9_0b, x9_0c⟩ := K9.at_ 0 rfl
    obtain ⟨x9_1a, x9_1b, x9_1c⟩ := K9.at_ 1 rfl
    go_wp2_with fail
    apply Calls.mono
    · with_reducible exact kIS _
    rintro _ w10 ⟨rfl, hb10⟩
    have K10 := K9.below hb10
    have V10 := bthen V9 hb10 V9.size
    clear x9_0a x9_0b x9_0c x9_1a x9_1b x9_1c
    clear K9 V9 hb10
    clear kII kIS
    go_wp2_with fail
    apply Calls.mono
    · with_reducible exact drawBoundsOf_any _ _ _ _ hn5 (HRD.out _ V10)
    rintro _ w11 ⟨h1, h2, rfl, hb11⟩
    have K11 := K10.below hb11
    have V11 := bthen V10 hb11 V10.size
    clear K10 V10 hb11
    have kBI := fun w => boundsI_any h1 h2 w
    have kBS := fun w => boundsS_any h1 h2 w
    have hbo := fun h => bo_law (n := h1) (d := h2) h
    generalize (boM h1 h2).1.1 = p at *
    generalize (boM h1 h2).1.2 = q at *
    generalize (boM h1 h2).2.1.1 = r at *
    generalize (boM h1 h2).2.1.2 = t at *
    generalize (boM h1 h2).2.2 = bc at *
    have HBO := Lib.hid hbo
    clear hbo
    have K11' := K11.box h1 h2
    have V11' := V11.alloc V11.size (.cells #[.int .i64 h1, .int .i64 h2] 24)
    clear K11 V11
    have K11 := K11'
    have V11 := V11'
    clear K11' V11'
    obtain ⟨x11_0a, x11_0b, x11_0c⟩ := K11.at_ 0 rfl
    go_wp2_with fail
    apply Calls.mono
    · with_reducible exact kBI _
    rintro _ w12 ⟨rfl, hb12⟩
    have K12 := K11.below hb12
    have V12 := bthen V11 hb12 V11.size
    clear x11_0a x11_0b x11_0c
    clear K11 V11 hb12
    obtain ⟨x12_0a, x12_0b, x12_0c⟩ := K12.at_ 0 rfl
    go_wp2_with fail
    apply Calls.mono
    · with_reducible exact kBS _
    rintro _ w13 ⟨rfl, hb13⟩
    have K13 := K12.below hb13
    have V13 := bthen V12 hb13 V12.size
    clear x12_0a x12_0b x12_0c
    clear K12 V12 hb13
    clear kBI kBS HRD
    have kN1 := run_neF f1 f2 f1 f2 false (by simp)
    have kN2 := run_neF x1 x2 x1 x2 false (by simp)
    have kGd := run_guardF .neq
    obtain ⟨x13_0a, x13_0b, x13_0c⟩ := K13.at_ 0 rfl
    obtain ⟨x13_3a, x13_3b, x13_3c⟩ := K13.at_ 3 rfl
    obtain ⟨x13_4a, x13_4b, x13_4c⟩ := K13.at_ 4 rfl
    obtain ⟨x13_7a, x13_7b, x13_7c⟩ := K13.at_ 7 rfl
    obtain ⟨x13_8a, x13_8b, x13_8c⟩ := K13.at_ 8 rfl
    by_cases hbc : bc = 0
    · subst hbc
      obtain ⟨o1, o2, o3, ⟨o4, o5⟩, ⟨o6, o7⟩, ⟨o8, o9⟩, o10, o11⟩ := HBO.out rfl
      obtain ⟨m1, m2⟩ := mul_bd9 (a := r) (b := q) (by omega) o9 (by omega) o7
      obtain ⟨m3, m4⟩ := mul_bd9 (a := p) (b := t) (by omega) o5 (by omega) o11
      clear HBO
      by_cases hxc : xc = 0
      · subst hxc
        rw [HCO.out rfl] at kOwn
        clear HCO
        obtain ⟨z13_4a, z13_4b, z13_4c⟩ := K13.at_ 4 rfl
        obtain ⟨z13_6a, z13_6b, z13_6c⟩ := K13.at_ 6 rfl
        go_wp2_with fail
        apply Calls.mono
        · with_reducible exact kOwn _
        rintro _ w14 ⟨rfl, hb14⟩
        have K14 := K13.below hb14
        have V14 := bthen V13 hb14 V13.size
        clear x13_0a x13_0b x13_0c x13_3a x13_3b x13_3c x13_4a x13_4b x13_4c x13_7a x13_7b x13_7c x13_8a x13_8b x13_8c z13_4a z13_4b z13_4c z13_6a z13_6b z13_6c
        clear K13 V13 hb14
        have K14' := K14.box x1 x2
        have V14' := V14.alloc V14.size (.cells #[.int .i64 x1, .int .i64 x2] 24)
        clear K14 V14
        have K14 := K14'
        have V14 := V14'
        clear K14' V14'
        clear kOwn
        obtain ⟨x14_0a, x14_0b, x14_0c⟩ := K14.at_ 0 rfl
        obtain ⟨x14_5a, x14_5b, x14_5c⟩ := K14.at_ 5 rfl
        by_cases hfc : fc = 0
        · subst hfc
          obtain ⟨l1, l2, ⟨l3, l4⟩, l5, ⟨l6, l7⟩, l8, l9, l10⟩ := HSB.out rfl
          have kL := fun w => compareFI_any a1 a2 f1 f2 l1 l5 w
          rw [show cmpF (a1 * f2) (f1 * a2) = -1 by unfold cmpF; rw [if_pos l8]] at kL
          have kH := fun w => compareFI_any f1 f2 b1 b2 l5 l2 w
          rw [show cmpF (f1 * b2) (b1 * f2) = -1 by unfold cmpF; rw [if_pos l9]] at kH
          have kFl := fun w => floorOf_any a1 a2 l1 w
          obtain ⟨u1, u2, u3, u4⟩ := okF_bd l1
          obtain ⟨t1, t2, t3, t4⟩ := okF_bd l2
          have L10 := Lib.hid l10
          have LT := Lib.hid (mid_lt u1 t1 l7 l8 l9)
          clear l1 l2 l5 l8 l9 l10 HSB
          obtain ⟨x14_9a, x14_9b, x14_9c⟩ := K14.at_ 9 rfl
          obtain ⟨x14_11a, x14_11b, x14_11c⟩ := K14.at_ 11 rfl
          go_wp2_with fail
          apply Calls.mono
          · with_reducible exact kL _
          rintro _ w15 ⟨rfl, hb15⟩
          have K15 := K14.below hb15
          have V15 := bthen V14 hb15 V14.size
          clear x14_0a x14_0b x14_0c x14_5a x14_5b x14_5c x14_9a x14_9b x14_9c x14_11a x14_11b x14_11c
          clear K14 V14 hb15
          obtain ⟨x15_9a, x15_9b, x15_9c⟩ := K15.at_ 9 rfl
          obtain ⟨x15_10a, x15_10b, x15_10c⟩ := K15.at_ 10 rfl
          go_wp2_with fail
          apply Calls.mono
          · with_reducible exact kH _
          rintro _ w16 ⟨rfl, hb16⟩
          have K16 := K15.below hb16
          have V16 := bthen V15 hb16 V15.size
          clear x15_9a x15_9b x15_9c x15_10a x15_10b x15_10c
          clear K15 V15 hb16
          clear kL kH
          obtain ⟨x16_9a, x16_9b, x16_9c⟩ := K16.at_ 9 rfl
          go_wp2_with fail
          go_loopg [38] (f2.toNat + 1) (fun k i wr => SimR w16 f2 k i wr)
          case atStart => exact ⟨1, by omega, by omega, by omega, by go_num, Below.refl _ _⟩
          case round =>
            obtain ⟨y, q1, q2, q3, rfl, hbw⟩ := hrel
            have hsz := hbw.size
            have KW := K16.below hbw
            obtain ⟨y16_9a, y16_9b, y16_9c⟩ := KW.at_ 9 rfl
            obtain ⟨y16_10a, y16_10b, y16_10c⟩ := KW.at_ 10 rfl
            obtain ⟨y16_11a, y16_11b, y16_11c⟩ := KW.at_ 11 rfl
            have VW := bthen V16 hbw V16.size
            by_cases hq : (y : Int) < f2 ∧ (y : Int) < 200
            · obtain ⟨hq1, hq2⟩ := hq
              obtain ⟨⟨r1, r2⟩, ⟨r3, r4⟩, ⟨r5, r6⟩, ⟨r7, r8⟩, r9, ⟨r10, r11⟩, ⟨r12, r13⟩, ⟨r14, r15⟩, r16⟩ := fl_all l3 u4 u1 l4 t4 t1 t2 LT.out (show (1 : Int) ≤ (y : Int) by omega) hq2 (L10.out (y : Int) (by omega) hq1)
              go_wp2_with fail
              apply Calls.mono
              · with_reducible exact kFl _
              rintro _ wz ⟨rfl, hbz⟩
              have KZ := KW.below hbz
              have VZ := bthen VW hbz VW.size
              have hbw' := bthen hbw hbz hbw.size
              clear y16_9a y16_9b y16_9c y16_10a y16_10b y16_10c y16_11a y16_11b y16_11c
              obtain ⟨v16_9a, v16_9b, v16_9c⟩ := KZ.at_ 9 rfl
              obtain ⟨v16_10a, v16_10b, v16_10c⟩ := KZ.at_ 10 rfl
              obtain ⟨v16_11a, v16_11b, v16_11c⟩ := KZ.at_ 11 rfl
              clear KW KZ VW hbw hbz
              generalize hw : a1 / a2 = z at *
              generalize hx : (a1 - z * a2) * (y : Int) / a2 = x at *
              have hne : a2 ≠ 0 := by omega
              clear hw hx
              go_wp2
              go_roundg (gk - 1)
              case measure => omega
              case rel => exact ⟨y + 1, by omega, by omega, by omega, by go_num, hbw'⟩
            · clear hbw
              by_cases hq1 : (y : Int) < f2
              · have hq2 : ¬ ((y : Int) < 200) := fun h => hq ⟨hq1, h⟩
                go_wp2
                go_ret
                refine ⟨by first | rfl | (simp), ?_⟩
                repeat' (first | (with_reducible exact Below.refl _ _) | (with_reducible assumption) | (with_reducible refine Below.alloc ?_ ?_ _) | (with_reducible refine Below.drew ?_) | (with_reducible refine bdrewN ?_ _) | (with_reducible refine Below.setCell ?_ ?_ _) | (with_reducible refine bthen ?_ (by assumption) ?_) | go_size)
              · go_wp2
                go_ret
                refine ⟨by first | rfl | (simp), ?_⟩
                repeat' (first | (with_reducible exact Below.refl _ _) | (with_reducible assumption) | (with_reducible refine Below.alloc ?_ ?_ _) | (with_reducible refine Below.drew ?_) | (with_reducible refine bdrewN ?_ _) | (with_reducible refine Below.setCell ?_ ?_ _) | (with_reducible refine bthen ?_ (by assumption) ?_) | go_size)
        · have hfc' : (fc != 0) = true := by simp [hfc]
          clear HSB
          go_wp2
          go_ret
          refine ⟨by first | rfl | (simp), ?_⟩
          repeat' (first | (with_reducible exact Below.refl _ _) | (with_reducible assumption) | (with_reducible refine Below.alloc ?_ ?_ _) | (with_reducible refine Below.drew ?_) | (with_reducible refine bdrewN ?_ _) | (with_reducible refine Below.setCell ?_ ?_ _) | (with_reducible refine bthen ?_ (by assumption) ?_) | go_size)
      · have hxc' : (xc == 0) = false := by simp [hxc]
        clear HCO kOwn
        by_cases hfc : fc = 0
        · subst hfc
          obtain ⟨l1, l2, ⟨l3, l4⟩, l5, ⟨l6, l7⟩, l8, l9, l10⟩ := HSB.out rfl
          have kL := fun w => compareFI_any a1 a2 f1 f2 l1 l5 w
          rw [show cmpF (a1 * f2) (f1 * a2) = -1 by unfold cmpF; rw [if_pos l8]] at kL
          have kH := fun w => compareFI_any f1 f2 b1 b2 l5 l2 w
          rw [show cmpF (f1 * b2) (b1 * f2) = -1 by unfold cmpF; rw [if_pos l9]] at kH
          have kFl := fun w => floorOf_any a1 a2 l1 w
          obtain ⟨u1, u2, u3, u4⟩ := okF_bd l1
          obtain ⟨t1, t2, t3, t4⟩ := okF_bd l2
          have L10 := Lib.hid l10
          have LT := Lib.hid (mid_lt u1 t1 l7 l8 l9)
          clear l1 l2 l5 l8 l9 l10 HSB
          obtain ⟨x13_10a, x13_10b, x13_10c⟩ := K13.at_ 10 rfl
          go_wp2_with fail
          apply Calls.mono
          · with_reducible exact kL _
          rintro _ w14 ⟨rfl, hb14⟩
          have K14 := K13.below hb14
          have V14 := bthen V13 hb14 V13.size
          clear x13_0a x13_0b x13_0c x13_3a x13_3b x13_3c x13_4a x13_4b x13_4c x13_7a x13_7b x13_7c x13_8a x13_8b x13_8c x13_10a x13_10b x13_10c
          clear K13 V13 hb14
          obtain ⟨x14_8a, x14_8b, x14_8c⟩ := K14.at_ 8 rfl
          obtain ⟨x14_9a, x14_9b, x14_9c⟩ := K14.at_ 9 rfl
          go_wp2_with fail
          apply Calls.mono
          · with_reducible exact kH _
          rintro _ w15 ⟨rfl, hb15⟩
          have K15 := K14.below hb15
          have V15 := bthen V14 hb15 V14.size
          clear x14_8a x14_8b x14_8c x14_9a x14_9b x14_9c
          clear K14 V14 hb15
          clear kL kH
          obtain ⟨x15_8a, x15_8b, x15_8c⟩ := K15.at_ 8 rfl
          go_wp2_with fail
          go_loopg [38] (f2.toNat + 1) (fun k i wr => SimR w15 f2 k i wr)
          case atStart => exact ⟨1, by omega, by omega, by omega, by go_num, Below.refl _ _⟩
          case round =>
            obtain ⟨y, q1, q2, q3, rfl, hbw⟩ := hrel
            have hsz := hbw.size
            have KW := K15.below hbw
            obtain ⟨y15_8a, y15_8b, y15_8c⟩ := KW.at_ 8 rfl
            obtain ⟨y15_9a, y15_9b, y15_9c⟩ := KW.at_ 9 rfl
            obtain ⟨y15_10a, y15_10b, y15_10c⟩ := KW.at_ 10 rfl
            have VW := bthen V15 hbw V15.size
            by_cases hq : (y : Int) < f2 ∧ (y : Int) < 200
            · obtain ⟨hq1, hq2⟩ := hq
              obtain ⟨⟨r1, r2⟩, ⟨r3, r4⟩, ⟨r5, r6⟩, ⟨r7, r8⟩, r9, ⟨r10, r11⟩, ⟨r12, r13⟩, ⟨r14, r15⟩, r16⟩ := fl_all l3 u4 u1 l4 t4 t1 t2 LT.out (show (1 : Int) ≤ (y : Int) by omega) hq2 (L10.out (y : Int) (by omega) hq1)
              go_wp2_with fail
              apply Calls.mono
              · with_reducible exact kFl _
              rintro _ wz ⟨rfl, hbz⟩
              have KZ := KW.below hbz
              have VZ := bthen VW hbz VW.size
              have hbw' := bthen hbw hbz hbw.size
              clear y15_8a y15_8b y15_8c y15_9a y15_9b y15_9c y15_10a y15_10b y15_10c
              obtain ⟨v15_8a, v15_8b, v15_8c⟩ := KZ.at_ 8 rfl
              obtain ⟨v15_9a, v15_9b, v15_9c⟩ := KZ.at_ 9 rfl
              obtain ⟨v15_10a, v15_10b, v15_10c⟩ := KZ.at_ 10 rfl
              clear KW KZ VW hbw hbz
              generalize hw : a1 / a2 = z at *
              generalize hx : (a1 - z * a2) * (y : Int) / a2 = x at *
              have hne : a2 ≠ 0 := by omega
              clear hw hx
              go_wp2
              go_roundg (gk - 1)
              case measure => omega
              case rel => exact ⟨y + 1, by omega, by omega, by omega, by go_num, hbw'⟩
            · clear hbw
              by_cases hq1 : (y : Int) < f2
              · have hq2 : ¬ ((y : Int) < 200) := fun h => hq ⟨hq1, h⟩
                go_wp2
                go_ret
                refine ⟨by first | rfl | (simp), ?_⟩
                repeat' (first | (with_reducible exact Below.refl _ _) | (with_reducible assumption) | (with_reducible refine Below.alloc ?_ ?_ _) | (with_reducible refine Below.drew ?_) | (with_reducible refine bdrewN ?_ _) | (with_reducible refine Below.setCell ?_ ?_ _) | (with_reducible refine bthen ?_ (by assumption) ?_) | go_size)
              · go_wp2
                go_ret
                refine ⟨by first | rfl | (simp), ?_⟩
                repeat' (first | (with_reducible exact Below.refl _ _) | (with_reducible assumption) | (with_reducible refine Below.alloc ?_ ?_ _) | (with_reducible refine Below.drew ?_) | (with_reducible refine bdrewN ?_ _) | (with_reducible refine Below.setCell ?_ ?_ _) | (with_reducible refine bthen ?_ (by assumption) ?_) | go_size)
        · have hfc' : (fc != 0) = true := by simp [hfc]
          clear HSB
          go_wp2
          go_ret
          refine ⟨by first | rfl | (simp), ?_⟩
          repeat' (first | (with_reducible exact Below.refl _ _) | (with_reducible assumption) | (with_reducible refine Below.alloc ?_ ?_ _) | (with_reducible refine Below.drew ?_) | (with_reducible refine bdrewN ?_ _) | (with_reducible refine Below.setCell ?_ ?_ _) | (with_reducible refine bthen ?_ (by assumption) ?_) | go_size)
    · have hbc' : (bc == 0) = false := by simp [hbc]
      clear HBO
      by_cases hxc : xc = 0
      · subst hxc
        rw [HCO.out rfl] at kOwn
        clear HCO
        obtain ⟨z13_4a, z13_4b, z13_4c⟩ := K13.at_ 4 rfl
        obtain ⟨z13_6a, z13_6b, z13_6c⟩ := K13.at_ 6 rfl
        go_wp2_with fail
        apply Calls.mono
        · with_reducible exact kOwn _
        rintro _ w14 ⟨rfl, hb14⟩
        have K14 := K13.below hb14
        have V14 := bthen V13 hb14 V13.size
        clear x13_0a x13_0b x13_0c x13_3a x13_3b x13_3c x13_4a x13_4b x13_4c x13_7a x13_7b x13_7c x13_8a x13_8b x13_8c z13_4a z13_4b z13_4c z13_6a z13_6b z13_6c
        clear K13 V13 hb14
        have K14' := K14.box x1 x2
        have V14' := V14.alloc V14.size (.cells #[.int .i64 x1, .int .i64 x2] 24)
        clear K14 V14
        have K14 := K14'
        have V14 := V14'
        clear K14' V14'
        clear kOwn
        obtain ⟨x14_0a, x14_0b, x14_0c⟩ := K14.at_ 0 rfl
        obtain ⟨x14_5a, x14_5b, x14_5c⟩ := K14.at_ 5 rfl
        by_cases hfc : fc = 0
        · subst hfc
          obtain ⟨l1, l2, ⟨l3, l4⟩, l5, ⟨l6, l7⟩, l8, l9, l10⟩ := HSB.out rfl
          have kL := fun w => compareFI_any a1 a2 f1 f2 l1 l5 w
          rw [show cmpF (a1 * f2) (f1 * a2) = -1 by unfold cmpF; rw [if_pos l8]] at kL
          have kH := fun w => compareFI_any f1 f2 b1 b2 l5 l2 w
          rw [show cmpF (f1 * b2) (b1 * f2) = -1 by unfold cmpF; rw [if_pos l9]] at kH
          have kFl := fun w => floorOf_any a1 a2 l1 w
          obtain ⟨u1, u2, u3, u4⟩ := okF_bd l1
          obtain ⟨t1, t2, t3, t4⟩ := okF_bd l2
          have L10 := Lib.hid l10
          have LT := Lib.hid (mid_lt u1 t1 l7 l8 l9)
          clear l1 l2 l5 l8 l9 l10 HSB
          obtain ⟨x14_9a, x14_9b, x14_9c⟩ := K14.at_ 9 rfl
          obtain ⟨x14_11a, x14_11b, x14_11c⟩ := K14.at_ 11 rfl
          go_wp2_with fail
          apply Calls.mono
          · with_reducible exact kL _
          rintro _ w15 ⟨rfl, hb15⟩
          have K15 := K14.below hb15
          have V15 := bthen V14 hb15 V14.size
          clear x14_0a x14_0b x14_0c x14_5a x14_5b x14_5c x14_9a x14_9b x14_9c x14_11a x14_11b x14_11c
          clear K14 V14 hb15
          obtain ⟨x15_9a, x15_9b, x15_9c⟩ := K15.at_ 9 rfl
          obtain ⟨x15_10a, x15_10b, x15_10c⟩ := K15.at_ 10 rfl
          go_wp2_with fail
          apply Calls.mono
          · with_reducible exact kH _
          rintro _ w16 ⟨rfl, hb16⟩
          have K16 := K15.below hb16
          have V16 := bthen V15 hb16 V15.size
          clear x15_9a x15_9b x15_9c x15_10a x15_10b x15_10c
          clear K15 V15 hb16
          clear kL kH
          obtain ⟨x16_9a, x16_9b, x16_9c⟩ := K16.at_ 9 rfl
          go_wp2_with fail
          go_loopg [38] (f2.toNat + 1) (fun k i wr => SimR w16 f2 k i wr)
          case atStart => exact ⟨1, by omega, by omega, by omega, by go_num, Below.refl _ _⟩
          case round =>
            obtain ⟨y, q1, q2, q3, rfl, hbw⟩ := hrel
            have hsz := hbw.size
            have KW := K16.below hbw
            obtain ⟨y16_9a, y16_9b, y16_9c⟩ := KW.at_ 9 rfl
            obtain ⟨y16_10a, y16_10b, y16_10c⟩ := KW.at_ 10 rfl
            obtain ⟨y16_11a, y16_11b, y16_11c⟩ := KW.at_ 11 rfl
            have VW := bthen V16 hbw V16.size
            by_cases hq : (y : Int) < f2 ∧ (y : Int) < 200
            · obtain ⟨hq1, hq2⟩ := hq
              obtain ⟨⟨r1, r2⟩, ⟨r3, r4⟩, ⟨r5, r6⟩, ⟨r7, r8⟩, r9, ⟨r10, r11⟩, ⟨r12, r13⟩, ⟨r14, r15⟩, r16⟩ := fl_all l3 u4 u1 l4 t4 t1 t2 LT.out (show (1 : Int) ≤ (y : Int) by omega) hq2 (L10.out (y : Int) (by omega) hq1)
              go_wp2_with fail
              apply Calls.mono
              · with_reducible exact kFl _
              rintro _ wz ⟨rfl, hbz⟩
              have KZ := KW.below hbz
              have VZ := bthen VW hbz VW.size
              have hbw' := bthen hbw hbz hbw.size
              clear y16_9a y16_9b y16_9c y16_10a y16_10b y16_10c y16_11a y16_11b y16_11c
              obtain ⟨v16_9a, v16_9b, v16_9c⟩ := KZ.at_ 9 rfl
              obtain ⟨v16_10a, v16_10b, v16_10c⟩ := KZ.at_ 10 rfl
              obtain ⟨v16_11a, v16_11b, v16_11c⟩ := KZ.at_ 11 rfl
              clear KW KZ VW hbw hbz
              generalize hw : a1 / a2 = z at *
              generalize hx : (a1 - z * a2) * (y : Int) / a2 = x at *
              have hne : a2 ≠ 0 := by omega
              clear hw hx
              go_wp2
              go_roundg (gk - 1)
              case measure => omega
              case rel => exact ⟨y + 1, by omega, by omega, by omega, by go_num, hbw'⟩
            · clear hbw
              by_cases hq1 : (y : Int) < f2
              · have hq2 : ¬ ((y : Int) < 200) := fun h => hq ⟨hq1, h⟩
                go_wp2
                go_ret
                refine ⟨by first | rfl | (simp), ?_⟩
                repeat' (first | (with_reducible exact Below.refl _ _) | (with_reducible assumption) | (with_reducible refine Below.alloc ?_ ?_ _) | (with_reducible refine Below.drew ?_) | (with_reducible refine bdrewN ?_ _) | (with_reducible refine Below.setCell ?_ ?_ _) | (with_reducible refine bthen ?_ (by assumption) ?_) | go_size)
              · go_wp2
                go_ret
                refine ⟨by first | rfl | (simp), ?_⟩
                repeat' (first | (with_reducible exact Below.refl _ _) | (with_reducible assumption) | (with_reducible refine Below.alloc ?_ ?_ _) | (with_reducible refine Below.drew ?_) | (with_reducible refine bdrewN ?_ _) | (with_reducible refine Below.setCell ?_ ?_ _) | (with_reducible refine bthen ?_ (by assumption) ?_) | go_size)
        · have hfc' : (fc != 0) = true := by simp [hfc]
          clear HSB
          go_wp2
          go_ret
          refine ⟨by first | rfl | (simp), ?_⟩
          repeat' (first | (with_reducible exact Below.refl _ _) | (with_reducible assumption) | (with_reducible refine Below.alloc ?_ ?_ _) | (with_reducible refine Below.drew ?_) | (with_reducible refine bdrewN ?_ _) | (with_reducible refine Below.setCell ?_ ?_ _) | (with_reducible refine bthen ?_ (by assumption) ?_) | go_size)
      · have hxc' : (xc == 0) = false := by simp [hxc]
        clear HCO kOwn
        by_cases hfc : fc = 0
        · subst hfc
          obtain ⟨l1, l2, ⟨l3, l4⟩, l5, ⟨l6, l7⟩, l8, l9, l10⟩ := HSB.out rfl
          have kL := fun w => compareFI_any a1 a2 f1 f2 l1 l5 w
          rw [show cmpF (a1 * f2) (f1 * a2) = -1 by unfold cmpF; rw [if_pos l8]] at kL
          have kH := fun w => compareFI_any f1 f2 b1 b2 l5 l2 w
          rw [show cmpF (f1 * b2) (b1 * f2) = -1 by unfold cmpF; rw [if_pos l9]] at kH
          have kFl := fun w => floorOf_any a1 a2 l1 w
          obtain ⟨u1, u2, u3, u4⟩ := okF_bd l1
          obtain ⟨t1, t2, t3, t4⟩ := okF_bd l2
          have L10 := Lib.hid l10
          have LT := Lib.hid (mid_lt u1 t1 l7 l8 l9)
          clear l1 l2 l5 l8 l9 l10 HSB
          obtain ⟨x13_10a, x13_10b, x13_10c⟩ := K13.at_ 10 rfl
          go_wp2_with fail
          apply Calls.mono
          · with_reducible exact kL _
          rintro _ w14 ⟨rfl, hb14⟩
          have K14 := K13.below hb14
          have V14 := bthen V13 hb14 V13.size
          clear x13_0a x13_0b x13_0c x13_3a x13_3b x13_3c x13_4a x13_4b x13_4c x13_7a x13_7b x13_7c x13_8a x13_8b x13_8c x13_10a x13_10b x13_10c
          clear K13 V13 hb14
          obtain ⟨x14_8a, x14_8b, x14_8c⟩ := K14.at_ 8 rfl
          obtain ⟨x14_9a, x14_9b, x14_9c⟩ := K14.at_ 9 rfl
          go_wp2_with fail
          apply Calls.mono
          · with_reducible exact kH _
          rintro _ w15 ⟨rfl, hb15⟩
          have K15 := K14.below hb15
          have V15 := bthen V14 hb15 V14.size
          clear x14_8a x14_8b x14_8c x14_9a x14_9b x14_9c
          clear K14 V14 hb15
          clear kL kH
          obtain ⟨x15_8a, x15_8b, x15_8c⟩ := K15.at_ 8 rfl
          go_wp2_with fail
          go_loopg [38] (f2.toNat + 1) (fun k i wr => SimR w15 f2 k i wr)
          case atStart => exact ⟨1, by omega, by omega, by omega, by go_num, Below.refl _ _⟩
          case round =>
            obtain ⟨y, q1, q2, q3, rfl, hbw⟩ := hrel
            have hsz := hbw.size
            have KW := K15.below hbw
            obtain ⟨y15_8a, y15_8b, y15_8c⟩ := KW.at_ 8 rfl
            obtain ⟨y15_9a, y15_9b, y15_9c⟩ := KW.at_ 9 rfl
            obtain ⟨y15_10a, y15_10b, y15_10c⟩ := KW.at_ 10 rfl
            have VW := bthen V15 hbw V15.size
            by_cases hq : (y : Int) < f2 ∧ (y : Int) < 200
            · obtain ⟨hq1, hq2⟩ := hq
              obtain ⟨⟨r1, r2⟩, ⟨r3, r4⟩, ⟨r5, r6⟩, ⟨r7, r8⟩, r9, ⟨r10, r11⟩, ⟨r12, r13⟩, ⟨r14, r15⟩, r16⟩ := fl_all l3 u4 u1 l4 t4 t1 t2 LT.out (show (1 : Int) ≤ (y : Int) by omega) hq2 (L10.out (y : Int) (by omega) hq1)
              go_wp2_with fail
              apply Calls.mono
              · with_reducible exact kFl _
              rintro _ wz ⟨rfl, hbz⟩
              have KZ := KW.below hbz
              have VZ := bthen VW hbz VW.size
              have hbw' := bthen hbw hbz hbw.size
              clear y15_8a y15_8b y15_8c y15_9a y15_9b y15_9c y15_10a y15_10b y15_10c
              obtain ⟨v15_8a, v15_8b, v15_8c⟩ := KZ.at_ 8 rfl
              obtain ⟨v15_9a, v15_9b, v15_9c⟩ := KZ.at_ 9 rfl
              obtain ⟨v15_10a, v15_10b, v15_10c⟩ := KZ.at_ 10 rfl
              clear KW KZ VW hbw hbz
              generalize hw : a1 / a2 = z at *
              generalize hx : (a1 - z * a2) * (y : Int) / a2 = x at *
              have hne : a2 ≠ 0 := by omega
              clear hw hx
              go_wp2
              go_roundg (gk - 1)
              case measure => omega
              case rel => exact ⟨y + 1, by omega, by omega, by omega, by go_num, hbw'⟩
            · clear hbw
              by_cases hq1 : (y : Int) < f2
              · have hq2 : ¬ ((y : Int) < 200) := fun h => hq ⟨hq1, h⟩
                go_wp2
                go_ret
                refine ⟨by first | rfl | (simp), ?_⟩
                repeat' (first | (with_reducible exact Below.refl _ _) | (with_reducible assumption) | (with_reducible refine Below.alloc ?_ ?_ _) | (with_reducible refine Below.drew ?_) | (with_reducible refine bdrewN ?_ _) | (with_reducible refine Below.setCell ?_ ?_ _) | (with_reducible refine bthen ?_ (by assumption) ?_) | go_size)
              · go_wp2
                go_ret
                refine ⟨by first | rfl | (simp), ?_⟩
                repeat' (first | (with_reducible exact Below.refl _ _) | (with_reducible assumption) | (with_reducible refine Below.alloc ?_ ?_ _) | (with_reducible refine Below.drew ?_) | (with_reducible refine bdrewN ?_ _) | (with_reducible refine Below.setCell ?_ ?_ _) | (with_reducible refine bthen ?_ (by assumption) ?_) | go_size)
        · have hfc' : (fc != 0) = true := by simp [hfc]
          clear HSB
          go_wp2
          go_ret
          refine ⟨by first | rfl | (simp), ?_⟩
          repeat' (first | (with_reducible exact Below.refl _ _) | (with_reducible assumption) | (with_reducible refine Below.alloc ?_ ?_ _) | (with_reducible refine Below.drew ?_) | (with_reducible refine bdrewN ?_ _) | (with_reducible refine Below.setCell ?_ ?_ _) | (with_reducible refine bthen ?_ (by assumption) ?_) | go_size)
  · have kB := fun w => f6big_any a n c true (by simp; omega) w
    clear hr hl
    go_enter Try.func6, Try.ntmps6
    go_wp2_with fail
    apply Calls.mono
    · with_reducible exact kB _
    rintro _ w1 ⟨rfl, bel1⟩
    go_wp2
    go_ret
    refine ⟨by first | rfl | (simp), ?_⟩
    repeat' (first | (with_reducible exact Below.refl _ _) | (with_reducible assumption) | (with_reducible refine Below.alloc ?_ ?_ _) | (with_reducible refine Below.drew ?_) | (with_reducible refine bdrewN ?_ _) | (with_reducible refine Below.setCell ?_ ?_ _) | (with_reducible refine bthen ?_ (by assumption) ?_) | go_size)
set_option maxRecDepth 100000 in
theorem lifted_FnSimplest (os : Os) (started : os.Started) (H : Type) (enc : TypeId × Value → H) :
    ReturnsInHanded {} Try.checked os 6 .any (Rows.fnSimplestSpec.pre6 enc Try.prog Try.f6 Rows.fnSimplestRow.domain false) (Rows.fnSimplestSpec.post enc Try.prog Try.f6 false true false false) := by
  refine returnsInHanded_of_change (C := Try.checked) own started (by kernel_rfl) Try.func6
    (ChangeSpec.witness6 (enc := enc) (C := Try.checked) false ⟨#[], #[.slice none 0 0], []⟩ 8 (by kernel_rfl) (by kernel_rfl) (by kernel_rfl) (by kernel_rfl)) ?_
  intro W base args ds gs before hval0 hW hcnd _
  have hval : ∀ (j : Nat) t v, Try.f6.params[j]? = some t → args[j]? = some v → Value.okWide Try.prog W .any base t v := hval0
  have hW' := hW
  obtain ⟨p, q, hA0, hV, rfl, hfz, hnd⟩ := hW
  have hA : DataW.TrodAll enc Try.prog W 0 (fun _ => true) true Try.f6.params.toList args.toList ds p := hA0
  rw [Try.params6] at hA hval
  obtain ⟨v0, vs0, d0, ds0, p0, q0, hargs, rfl, rfl, h0, r0⟩ := trodAll_cons hA
  obtain ⟨rfl, rfl, rfl⟩ := trodAll_nil r0
  obtain rfl : args = #[v0] := by cases args; simp_all
  obtain ⟨rfl, rfl⟩ := trodVars_none hV
  have k0 := h0
  have lt0 : ∀ x ∈ p0, x.block < W.heap.size := by obtain ⟨m, hm⟩ := k0; exact DataW.trod_lt m _ _ _ hm
  obtain ⟨a0, len0, cap0, rfl⟩ := okWide_slice Try.underlying32 (hval 0 32 v0 rfl rfl)
  obtain ⟨z0, ir0⟩ : ∃ zs, IsRow .u8 W a0 len0 cap0 zs := by
    obtain ⟨fuel, hf⟩ := h0
    rcases open_ints Try.underlying32 Try.underlying5 (by kernel_rfl) hf with ⟨hcs, _⟩ | ⟨x, l, c, zs, hcs, _, hl, hm, hz, _, hcell, hwz⟩
    · simp [Value.cells] at hcs
      obtain ⟨rfl, rfl, rfl⟩ := hcs
      exact ⟨[], .inl ⟨rfl, rfl, rfl, rfl⟩⟩
    · simp [Value.cells] at hcs
      obtain ⟨rfl, rfl, rfl⟩ := hcs
      exact ⟨zs, .inr ⟨_, rfl, hl, hm, by simpa using hz, hcell, hwz⟩⟩
  clear hA0 hval0
  refine (walk_FnSimplest a0 len0 cap0 z0 W ir0).mono fun e W' ⟨he, bel⟩ => ?_
  subst he
  exact ⟨_, rfl, _, _, _, [], _, [], hW', trodAll_mk1 (shut_bool Try.underlying4 _), (trodAll_cons_mk (Below.trod laidOut (by kernel_rfl) (of_decide_eq_true (by kernel_rfl)) k0 bel lt0) trodAll_mk0), rfl, bel.frame _, fun h => by cases h⟩
theorem over_FnSimplest : Rows.fnSimplestRow.holds Try.pinned (OpenSpec.ofChange Rows.fnSimplestSpec) :=
  OpenClaim.holds_of_wide 6 Try.f6 rfl rfl rfl rfl rfl rfl rfl ⟨rfl, rfl, rfl, rfl, rfl⟩ rfl rfl rfl rfl rfl (by kernel_rfl) Try.func6 (by kernel_rfl)
    (of_decide_eq_true (by kernel_rfl)) (by unfold Func.isWrapper; first | (rw [if_pos (by decide +kernel)]; kernel_rfl) | (rw [if_neg (by decide +kernel)]; exact ⟨rfl, rfl⟩))
    (fun os started H enc _ => lifted_FnSimplest os started H enc)
/-- The statement. -/
theorem holds_FnSimplest : Rows.FnSimplestSaid := over_FnSimplest
#print axioms holds_FnSimplest
end Go.Proofs.Ytlmmpeeacjbobaa
