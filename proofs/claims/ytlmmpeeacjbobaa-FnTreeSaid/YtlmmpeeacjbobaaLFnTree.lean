/-
  For all bytes the law FnTree answers true. Printed by mktree.py.
-/
import Derived.Test.YtlmmpeeacjbobaaTy
import Derived.Test.YtlmmpeeacjbobaaRn
import Derived.Test.YtlmmpeeacjbobaaKp
import Derived.Test.YtlmmpeeacjbobaaDraw2
namespace Go.Proofs.Ytlmmpeeacjbobaa
open Go.ChangeShapes Go.WideShapes Go.ChangeAt Go.RowKit Go.Joins
open Go.ChangeMaps (open_string shut_string)
set_option linter.unusedVariables false

set_option maxHeartbeats 16000000 in
set_option maxRecDepth 100000 in
theorem walk_FnTree (a : Option Addr) (n c : Nat) (zs : List Int) (w : World) (hr : IsRow .u8 w a n c zs) :
    Calls Try.prog 5 #[.slice a n c] w (Ret w (.bool true)) := by
  by_cases hl : n ≤ 4096
  · have hrd := byteRd_of_row hr
    have kB := fun w => f6big_any a n c false (by simp [hl]) w
    have HRD := Lib.hid (fun w' (hb : Below w.heap.size w w') => hrd.below hb)
    have hn5 : n ≤ 100000 := by omega
    clear hr hrd
    go_enter Try.func5, Try.ntmps5
    go_wp2_with fail
    apply Calls.mono
    · with_reducible exact kB _
    rintro _ w1 ⟨rfl, V1⟩
    have K1 := Kp.nil w1 24
    clear kB
    go_wp2_with fail
    apply Calls.mono
    · with_reducible exact drawPathTo_any _ _ _ _ hn5 (HRD.out w1 V1)
    rintro _ w2 ⟨x, y, rfl, hb2⟩
    have K2 := K1.below hb2
    have V2 := bthen V1 hb2 V1.size
    clear K1 V1 hb2 
    have kPI := fun w => pathI_any x y w
    have kPS := fun w => pathS_any x y w
    have kLI := fun w => levelI_any x y w
    have kLS := fun w => levelS_any x y w
    have kCI := fun w => childrenI_any x y w
    have kCS := fun w => childrenS_any x y w
    have hch := fun h => ch_law (n := x) (d := y) h
    have hbk := fun h => back_law (n := x) (d := y) h
    have hpl := (pt_bd (n := x) (d := y)).2
    generalize (chM x y).1.1 = l1 at *
    generalize (chM x y).1.2 = l2 at *
    generalize (chM x y).2.1.1 = r1 at *
    generalize (chM x y).2.1.2 = r2 at *
    generalize (chM x y).2.2 = cc at *
    generalize posC x y = pc at *
    generalize ptP x y = ps at *
    generalize ps.sum = lv at *
    have HCH := Lib.hid hch
    have HBK := Lib.hid hbk
    clear hch hbk
    have K2' := K2.box x y
    have V2' := V2.alloc V2.size (.cells #[.int .i64 x, .int .i64 y] 24)
    clear K2 V2
    have K2 := K2'
    have V2 := V2'
    clear K2' V2'
    obtain ⟨x2_0a, x2_0b, x2_0c⟩ := K2.at_ 0 rfl
    go_wp2_with fail
    apply Calls.mono
    · with_reducible exact kPI _
    rintro _ w3 ⟨vI, rfl, hoI, hb3⟩
    have K3 := K2.below hb3
    have V3 := bthen V2 hb3 V2.size
    clear x2_0a x2_0b x2_0c
    clear K2 V2 hb3 
    have RI3 := Rs.of_own hoI
    obtain ⟨aRI, cRI, rfl, -⟩ := id (Rd.of_own hoI)
    clear hoI
    obtain ⟨x3_0a, x3_0b, x3_0c⟩ := K3.at_ 0 rfl
    go_wp2_with fail
    apply Calls.mono
    · with_reducible exact kPS _
    rintro _ w4 ⟨vS, rfl, hoS, hb4⟩
    have K4 := K3.below hb4
    have V4 := bthen V3 hb4 V3.size
    have RI4 := RI3.below hb4 (Nat.le_refl _)
    clear x3_0a x3_0b x3_0c
    clear K3 V3 hb4 RI3
    have RS4 := Rs.of_own hoS
    obtain ⟨aRS, cRS, rfl, -⟩ := id (Rd.of_own hoS)
    clear hoS
    obtain ⟨x4_0a, x4_0b, x4_0c⟩ := K4.at_ 0 rfl
    go_wp2_with fail
    apply Calls.mono
    · with_reducible exact kLI _
    rintro _ w5 ⟨rfl, hb5⟩
    have K5 := K4.below hb5
    have V5 := bthen V4 hb5 V4.size
    have RI5 := RI4.below hb5 (Nat.le_refl _)
    have RS5 := RS4.below hb5 (Nat.le_refl _)
    clear x4_0a x4_0b x4_0c
    clear K4 V4 hb5 RI4 RS4
    obtain ⟨x5_0a, x5_0b, x5_0c⟩ := K5.at_ 0 rfl
    go_wp2_with fail
    apply Calls.mono
    · with_reducible exact kLS _
    rintro _ w6 ⟨rfl, hb6⟩
    have K6 := K5.below hb6
    have V6 := bthen V5 hb6 V5.size
    have RI6 := RI5.below hb6 (Nat.le_refl _)
    have RS6 := RS5.below hb6 (Nat.le_refl _)
    clear x5_0a x5_0b x5_0c
    clear K5 V5 hb6 RI5 RS5
    obtain ⟨x6_0a, x6_0b, x6_0c⟩ := K6.at_ 0 rfl
    go_wp2_with fail
    apply Calls.mono
    · with_reducible exact kCI _
    rintro _ w7 ⟨rfl, hb7⟩
    have K7 := K6.below hb7
    have V7 := bthen V6 hb7 V6.size
    have RI7 := RI6.below hb7 (Nat.le_refl _)
    have RS7 := RS6.below hb7 (Nat.le_refl _)
    clear x6_0a x6_0b x6_0c
    clear K6 V6 hb7 RI6 RS6
    have K7' := K7.box l1 l2
    have V7' := V7.alloc V7.size (.cells #[.int .i64 l1, .int .i64 l2] 24)
    have RI7' := RI7.alloc (.cells #[.int .i64 l1, .int .i64 l2] 24)
    have RS7' := RS7.alloc (.cells #[.int .i64 l1, .int .i64 l2] 24)
    clear K7 V7 RI7 RS7
    have K7 := K7'
    have V7 := V7'
    have RI7 := RI7'
    have RS7 := RS7'
    clear K7' V7' RI7' RS7'
    have K7' := K7.box r1 r2
    rw [World.size_alloc] at K7'
    have V7' := V7.alloc V7.size (.cells #[.int .i64 r1, .int .i64 r2] 24)
    have RI7' := RI7.alloc (.cells #[.int .i64 r1, .int .i64 r2] 24)
    have RS7' := RS7.alloc (.cells #[.int .i64 r1, .int .i64 r2] 24)
    clear K7 V7 RI7 RS7
    have K7 := K7'
    have V7 := V7'
    have RI7 := RI7'
    have RS7 := RS7'
    clear K7' V7' RI7' RS7'
    obtain ⟨x7_2a, x7_2b, x7_2c⟩ := K7.at_ 2 rfl
    go_wp2_with fail
    apply Calls.mono
    · with_reducible exact kCS _
    rintro _ w8 ⟨rfl, hb8⟩
    have K8 := K7.below hb8
    have V8 := bthen V7 hb8 V7.size
    have RI8 := RI7.below hb8 (Nat.le_refl _)
    have RS8 := RS7.below hb8 (Nat.le_refl _)
    clear x7_2a x7_2b x7_2c
    clear K7 V7 hb8 RI7 RS7
    have K8' := K8.box l1 l2
    have V8' := V8.alloc V8.size (.cells #[.int .i64 l1, .int .i64 l2] 24)
    have RI8' := RI8.alloc (.cells #[.int .i64 l1, .int .i64 l2] 24)
    have RS8' := RS8.alloc (.cells #[.int .i64 l1, .int .i64 l2] 24)
    clear K8 V8 RI8 RS8
    have K8 := K8'
    have V8 := V8'
    have RI8 := RI8'
    have RS8 := RS8'
    clear K8' V8' RI8' RS8'
    have K8' := K8.box r1 r2
    rw [World.size_alloc] at K8'
    have V8' := V8.alloc V8.size (.cells #[.int .i64 r1, .int .i64 r2] 24)
    have RI8' := RI8.alloc (.cells #[.int .i64 r1, .int .i64 r2] 24)
    have RS8' := RS8.alloc (.cells #[.int .i64 r1, .int .i64 r2] 24)
    clear K8 V8 RI8 RS8
    have K8 := K8'
    have V8 := V8'
    have RI8 := RI8'
    have RS8 := RS8'
    clear K8' V8' RI8' RS8'
    clear kPI kPS kLI kLS kCI kCS
    go_wp2_with fail
    apply Calls.mono
    · with_reducible exact drawParent_any _ _ _ _ hn5 (HRD.out _ V8)
    rintro _ w9 ⟨c1, c2, rfl, hb9⟩
    have K9 := K8.below hb9
    have V9 := bthen V8 hb9 V8.size
    have RI9 := RI8.below hb9 (Nat.le_refl _)
    have RS9 := RS8.below hb9 (Nat.le_refl _)
    clear K8 V8 hb9 RI8 RS8
    have kUI := fun w => parentI_any c1 c2 w
    have kUS := fun w => parentS_any c1 c2 w
    have hup := fun h => parent_level (n := c1) (d := c2) h
    have kV1 := fun w => levelI_any c1 c2 w
    generalize (paM c1 c2).1 = u1 at *
    generalize (paM c1 c2).2.1 = u2 at *
    generalize (paM c1 c2).2.2 = uc at *
    have kV2 := fun w => levelI_any u1 u2 w
    obtain ⟨sb1, sb2⟩ := sum_bd u1 u2
    generalize posC c1 c2 = p1 at *
    generalize posC u1 u2 = p2 at *
    generalize (ptP c1 c2).sum = s1 at *
    generalize (ptP u1 u2).sum = s2 at *
    have HUP := Lib.hid hup
    clear hup
    have K9' := K9.box c1 c2
    have V9' := V9.alloc V9.size (.cells #[.int .i64 c1, .int .i64 c2] 24)
    have RI9' := RI9.alloc (.cells #[.int .i64 c1, .int .i64 c2] 24)
    have RS9' := RS9.alloc (.cells #[.int .i64 c1, .int .i64 c2] 24)
    clear K9 V9 RI9 RS9
    have K9 := K9'
    have V9 := V9'
    have RI9 := RI9'
    have RS9 := RS9'
    clear K9' V9' RI9' RS9'
    obtain ⟨x9_0a, x9_0b, x9_0c⟩ := K9.at_ 0 rfl
    go_wp2_with fail
    apply Calls.mono
    · with_reducible exact kUI _
    rintro _ w10 ⟨rfl, hb10⟩
    have K10 := K9.below hb10
    have V10 := bthen V9 hb10 V9.size
    have RI10 := RI9.below hb10 (Nat.le_refl _)
    have RS10 := RS9.below hb10 (Nat.le_refl _)
    clear x9_0a x9_0b x9_0c
    clear K9 V9 hb10 RI9 RS9
    have K10' := K10.box u1 u2
    have V10' := V10.alloc V10.size (.cells #[.int .i64 u1, .int .i64 u2] 24)
    have RI10' := RI10.alloc (.cells #[.int .i64 u1, .int .i64 u2] 24)
    have RS10' := RS10.alloc (.cells #[.int .i64 u1, .int .i64 u2] 24)
    clear K10 V10 RI10 RS10
    have K10 := K10'
    have V10 := V10'
    have RI10 := RI10'
    have RS10 := RS10'
    clear K10' V10' RI10' RS10'
    obtain ⟨x10_1a, x10_1b, x10_1c⟩ := K10.at_ 1 rfl
    go_wp2_with fail
    apply Calls.mono
    · with_reducible exact kUS _
    rintro _ w11 ⟨rfl, hb11⟩
    have K11 := K10.below hb11
    have V11 := bthen V10 hb11 V10.size
    have RI11 := RI10.below hb11 (Nat.le_refl _)
    have RS11 := RS10.below hb11 (Nat.le_refl _)
    clear x10_1a x10_1b x10_1c
    clear K10 V10 hb11 RI10 RS10
    have K11' := K11.box u1 u2
    have V11' := V11.alloc V11.size (.cells #[.int .i64 u1, .int .i64 u2] 24)
    have RI11' := RI11.alloc (.cells #[.int .i64 u1, .int .i64 u2] 24)
    have RS11' := RS11.alloc (.cells #[.int .i64 u1, .int .i64 u2] 24)
    clear K11 V11 RI11 RS11
    have K11 := K11'
    have V11 := V11'
    have RI11 := RI11'
    have RS11 := RS11'
    clear K11' V11' RI11' RS11'
    clear kUI kUS
    go_wp2_with fail
    apply Calls.mono
    · with_reducible exact drawFracPath_any _ _ _ _ hn5 (HRD.out _ V11)
    rintro _ w12 ⟨vP, qs, rfl, hql, hoP, hb12⟩
    have K12 := K11.below hb12
    have V12 := bthen V11 hb12 V11.size
    have RI12 := RI11.below hb12 (Nat.le_refl _)
    have RS12 := RS11.below hb12 (Nat.le_refl _)
    clear K11 V11 hb12 RI11 RS11
    have RP12 := Rs.of_own hoP
    obtain ⟨aRP, cRP, rfl, -⟩ := id (Rd.of_own hoP)
    clear hoP
    have kFI := fun v w h => fracPathI_any v qs w h (by omega)
    have kFS := fun v w h => fracPathS_any v qs w h (by omega)
    have hfp := fun h => fp_law (s := qs) h
    generalize (fpM qs).1 = f1 at *
    generalize (fpM qs).2.1 = f2 at *
    generalize (fpM qs).2.2 = fc at *
    have kO := fun w => pathI_any f1 f2 w
    have HFP := Lib.hid hfp
    obtain ⟨vb, hvb⟩ : ∃ b, okR qs = b := ⟨_, rfl⟩
    have HVB := Lib.hid hvb
    have hql2 : qs.length ≤ 1048576 := by omega
    have kGI := fun v w h => fracPathI_any v ps w h (by omega)
    clear hfp hvb HRD
    go_wp2_with fail
    apply Calls.mono
    · with_reducible exact kFI _ _ RP12
    rintro _ w13 ⟨rfl, hb13⟩
    have K13 := K12.below hb13
    have V13 := bthen V12 hb13 V12.size
    have RI13 := RI12.below hb13 (Nat.le_refl _)
    have RS13 := RS12.below hb13 (Nat.le_refl _)
    have RP13 := RP12.below hb13 (Nat.le_refl _)
    clear K12 V12 hb13 RI12 RS12 RP12
    have K13' := K13.box f1 f2
    have V13' := V13.alloc V13.size (.cells #[.int .i64 f1, .int .i64 f2] 24)
    have RI13' := RI13.alloc (.cells #[.int .i64 f1, .int .i64 f2] 24)
    have RS13' := RS13.alloc (.cells #[.int .i64 f1, .int .i64 f2] 24)
    have RP13' := RP13.alloc (.cells #[.int .i64 f1, .int .i64 f2] 24)
    clear K13 V13 RI13 RS13 RP13
    have K13 := K13'
    have V13 := V13'
    have RI13 := RI13'
    have RS13 := RS13'
    have RP13 := RP13'
    clear K13' V13' RI13' RS13' RP13'
    go_wp2_with fail
    apply Calls.mono
    · with_reducible exact kFS _ _ RP13
    rintro _ w14 ⟨rfl, hb14⟩
    have K14 := K13.below hb14
    have V14 := bthen V13 hb14 V13.size
    have RI14 := RI13.below hb14 (Nat.le_refl _)
    have RS14 := RS13.below hb14 (Nat.le_refl _)
    have RP14 := RP13.below hb14 (Nat.le_refl _)
    clear K13 V13 hb14 RI13 RS13 RP13
    have K14' := K14.box f1 f2
    have V14' := V14.alloc V14.size (.cells #[.int .i64 f1, .int .i64 f2] 24)
    have RI14' := RI14.alloc (.cells #[.int .i64 f1, .int .i64 f2] 24)
    have RS14' := RS14.alloc (.cells #[.int .i64 f1, .int .i64 f2] 24)
    have RP14' := RP14.alloc (.cells #[.int .i64 f1, .int .i64 f2] 24)
    clear K14 V14 RI14 RS14 RP14
    have K14 := K14'
    have V14 := V14'
    have RI14 := RI14'
    have RS14 := RS14'
    have RP14 := RP14'
    clear K14' V14' RI14' RS14' RP14'
    clear kFI kFS
    have kN1 := run_neF l1 l2 l1 l2 false (by simp)
    have kN2 := run_neF r1 r2 r1 r2 false (by simp)
    have kN3 := run_neF u1 u2 u1 u2 false (by simp)
    have kN4 := run_neF f1 f2 f1 f2 false (by simp)
    have kN5 := run_neF x y x y false (by simp)
    have kGd := run_guardF .neq
    have RIr := RI14.1
    have RSr := RS14.1
    go_wp2_with fail
    apply Calls.mono
    · with_reducible exact f6ints_same _ _ _ ps _ RIr RSr
    rintro _ w15 ⟨rfl, hb15⟩
    have K15 := K14.below hb15
    have V15 := bthen V14 hb15 V14.size
    have RI15 := RI14.below hb15 (Nat.le_refl _)
    have RS15 := RS14.below hb15 (Nat.le_refl _)
    have RP15 := RP14.below hb15 (Nat.le_refl _)
    clear K14 V14 hb15 RI14 RS14 RP14
    clear RIr RSr
    have RPr := RP15.1
    clear RS15
    obtain ⟨x15_0a, x15_0b, x15_0c⟩ := K15.at_ 0 rfl
    obtain ⟨x15_1a, x15_1b, x15_1c⟩ := K15.at_ 1 rfl
    obtain ⟨x15_2a, x15_2b, x15_2c⟩ := K15.at_ 2 rfl
    obtain ⟨x15_3a, x15_3b, x15_3c⟩ := K15.at_ 3 rfl
    obtain ⟨x15_5a, x15_5b, x15_5c⟩ := K15.at_ 5 rfl
    obtain ⟨x15_6a, x15_6b, x15_6c⟩ := K15.at_ 6 rfl
    obtain ⟨x15_7a, x15_7b, x15_7c⟩ := K15.at_ 7 rfl
    obtain ⟨x15_8a, x15_8b, x15_8c⟩ := K15.at_ 8 rfl
    go_wp2_with fail
    apply Calls.mono
    · with_reducible exact validPath_any _ _ qs _ RPr hql2 vb HVB.out
    rintro _ w16 ⟨rfl, hb16⟩
    have K16 := K15.below hb16
    have V16 := bthen V15 hb16 V15.size
    have RI16 := RI15.below hb16 (Nat.le_refl _)
    have RP16 := RP15.below hb16 (Nat.le_refl _)
    clear x15_0a x15_0b x15_0c x15_1a x15_1b x15_1c x15_2a x15_2b x15_2c x15_3a x15_3b x15_3c x15_5a x15_5b x15_5c x15_6a x15_6b x15_6c x15_7a x15_7b x15_7c x15_8a x15_8b x15_8c
    clear K15 V15 hb16 RI15 RP15
    clear RPr
    have RPr := RP16.1
    go_wp2_with fail
    apply Calls.mono
    · with_reducible exact validPathS_any _ _ qs _ RPr hql2 vb HVB.out
    rintro _ w17 ⟨rfl, hb17⟩
    have K17 := K16.below hb17
    have V17 := bthen V16 hb17 V16.size
    have RI17 := RI16.below hb17 (Nat.le_refl _)
    have RP17 := RP16.below hb17 (Nat.le_refl _)
    clear K16 V16 hb17 RI16 RP16
    clear RPr kN1 kN2 kN3 kN4 HVB
    by_cases hfc : fc = 0
    · subst hfc
      obtain ⟨k1, k2⟩ := HFP.out rfl
      rw [k1, k2] at kO
      clear HFP k1 k2
      obtain ⟨x17_1a, x17_1b, x17_1c⟩ := K17.at_ 1 rfl
      go_wp2_with fail
      apply Calls.mono
      · with_reducible exact kO _
      rintro _ w18 ⟨vO, rfl, hoO, hb18⟩
      have K18 := K17.below hb18
      have V18 := bthen V17 hb18 V17.size
      have RI18 := RI17.below hb18 (Nat.le_refl _)
      have RP18 := RP17.below hb18 (Nat.le_refl _)
      clear x17_1a x17_1b x17_1c
      clear K17 V17 hb18 RI17 RP17
      have RO18 := Rs.of_own hoO
      obtain ⟨aRO, cRO, rfl, -⟩ := id (Rd.of_own hoO)
      clear hoO
      have ROr := RO18.1
      have RPr := RP18.1
      go_wp2_with fail
      apply Calls.mono
      · with_reducible exact f6ints_same _ _ _ qs _ ROr RPr
      rintro _ w19 ⟨rfl, hb19⟩
      have K19 := K18.below hb19
      have V19 := bthen V18 hb19 V18.size
      have RI19 := RI18.below hb19 (Nat.le_refl _)
      have RP19 := RP18.below hb19 (Nat.le_refl _)
      have RO19 := RO18.below hb19 (Nat.le_refl _)
      clear K18 V18 hb19 RI18 RP18 RO18
      clear ROr RPr kO RO19 RP19
      by_cases hcc : cc = 0
      · subst hcc
        obtain ⟨k1, k2⟩ := HCH.out rfl
        have kA := fun w => parentI_any l1 l2 w
        have kB := fun w => parentI_any r1 r2 w
        rw [k1] at kA
        rw [k2] at kB
        clear HCH k1 k2
        obtain ⟨x19_8a, x19_8b, x19_8c⟩ := K19.at_ 8 rfl
        go_wp2_with fail
        apply Calls.mono
        · with_reducible exact kA _
        rintro _ w20 ⟨rfl, hb20⟩
        have K20 := K19.below hb20
        have V20 := bthen V19 hb20 V19.size
        have RI20 := RI19.below hb20 (Nat.le_refl _)
        clear x19_8a x19_8b x19_8c
        clear K19 V19 hb20 RI19
        have K20' := K20.box x y
        have V20' := V20.alloc V20.size (.cells #[.int .i64 x, .int .i64 y] 24)
        have RI20' := RI20.alloc (.cells #[.int .i64 x, .int .i64 y] 24)
        clear K20 V20 RI20
        have K20 := K20'
        have V20 := V20'
        have RI20 := RI20'
        clear K20' V20' RI20'
        obtain ⟨x20_8a, x20_8b, x20_8c⟩ := K20.at_ 8 rfl
        go_wp2_with fail
        apply Calls.mono
        · with_reducible exact kB _
        rintro _ w21 ⟨rfl, hb21⟩
        have K21 := K20.below hb21
        have V21 := bthen V20 hb21 V20.size
        have RI21 := RI20.below hb21 (Nat.le_refl _)
        clear x20_8a x20_8b x20_8c
        clear K20 V20 hb21 RI20
        have K21' := K21.box x y
        have V21' := V21.alloc V21.size (.cells #[.int .i64 x, .int .i64 y] 24)
        have RI21' := RI21.alloc (.cells #[.int .i64 x, .int .i64 y] 24)
        clear K21 V21 RI21
        have K21 := K21'
        have V21 := V21'
        have RI21 := RI21'
        clear K21' V21' RI21'
        clear kA kB
        obtain ⟨x21_0a, x21_0b, x21_0c⟩ := K21.at_ 0 rfl
        obtain ⟨x21_1a, x21_1b, x21_1c⟩ := K21.at_ 1 rfl
        obtain ⟨x21_11a, x21_11b, x21_11c⟩ := K21.at_ 11 rfl
        by_cases huc : uc = 0
        · subst huc
          obtain ⟨k1, k2, k3⟩ := HUP.out rfl
          subst k1 k2 k3
          clear HUP
          obtain ⟨x21_6a, x21_6b, x21_6c⟩ := K21.at_ 6 rfl
          go_wp2_with fail
          apply Calls.mono
          · with_reducible exact kV1 _
          rintro _ w22 ⟨rfl, hb22⟩
          have K22 := K21.below hb22
          have V22 := bthen V21 hb22 V21.size
          have RI22 := RI21.below hb22 (Nat.le_refl _)
          clear x21_0a x21_0b x21_0c x21_1a x21_1b x21_1c x21_11a x21_11b x21_11c x21_6a x21_6b x21_6c
          clear K21 V21 hb22 RI21
          obtain ⟨x22_5a, x22_5b, x22_5c⟩ := K22.at_ 5 rfl
          go_wp2_with fail
          apply Calls.mono
          · with_reducible exact kV2 _
          rintro _ w23 ⟨rfl, hb23⟩
          have K23 := K22.below hb23
          have V23 := bthen V22 hb23 V22.size
          have RI23 := RI22.below hb23 (Nat.le_refl _)
          clear x22_5a x22_5b x22_5c
          clear K22 V22 hb23 RI22
          clear kV1 kV2
          by_cases hpc : pc = 0
          · subst hpc
            rw [HBK.out rfl] at kGI
            clear HBK
            go_wp2_with fail
            apply Calls.mono
            · with_reducible exact kGI _ _ RI23
            rintro _ w24 ⟨rfl, hb24⟩
            have K24 := K23.below hb24
            have V24 := bthen V23 hb24 V23.size
            have RI24 := RI23.below hb24 (Nat.le_refl _)
            clear K23 V23 hb24 RI23
            have K24' := K24.box x y
            have V24' := V24.alloc V24.size (.cells #[.int .i64 x, .int .i64 y] 24)
            have RI24' := RI24.alloc (.cells #[.int .i64 x, .int .i64 y] 24)
            clear K24 V24 RI24
            have K24 := K24'
            have V24 := V24'
            have RI24 := RI24'
            clear K24' V24' RI24'
            obtain ⟨x24_0a, x24_0b, x24_0c⟩ := K24.at_ 0 rfl
            obtain ⟨x24_12a, x24_12b, x24_12c⟩ := K24.at_ 12 rfl
            have kE := run_eqF x y x y true (by simp)
            have kGe := run_guardF .eql
            clear kGI K24 RI24
            go_wp2
            go_ret
            refine ⟨by first | rfl | (simp), ?_⟩
            repeat' (first | (with_reducible exact Below.refl _ _) | (with_reducible assumption) | (with_reducible refine Below.alloc ?_ ?_ _) | (with_reducible refine Below.drew ?_) | (with_reducible refine bdrewN ?_ _) | (with_reducible refine Below.setCell ?_ ?_ _) | (with_reducible refine bthen ?_ (by assumption) ?_) | go_size)
          · have hpc' : (pc != 0) = true := by simp [hpc]
            clear HBK kGI
            go_wp2
            go_ret
            refine ⟨by first | rfl | (simp), ?_⟩
            repeat' (first | (with_reducible exact Below.refl _ _) | (with_reducible assumption) | (with_reducible refine Below.alloc ?_ ?_ _) | (with_reducible refine Below.drew ?_) | (with_reducible refine bdrewN ?_ _) | (with_reducible refine Below.setCell ?_ ?_ _) | (with_reducible refine bthen ?_ (by assumption) ?_) | go_size)
        · have huc' : (uc == 0) = false := by simp [huc]
          clear HUP kV1 kV2
          by_cases hpc : pc = 0
          · subst hpc
            rw [HBK.out rfl] at kGI
            clear HBK
            go_wp2_with fail
            apply Calls.mono
            · with_reducible exact kGI _ _ RI21
            rintro _ w22 ⟨rfl, hb22⟩
            have K22 := K21.below hb22
            have V22 := bthen V21 hb22 V21.size
            have RI22 := RI21.below hb22 (Nat.le_refl _)
            clear x21_0a x21_0b x21_0c x21_1a x21_1b x21_1c x21_11a x21_11b x21_11c
            clear K21 V21 hb22 RI21
            have K22' := K22.box x y
            have V22' := V22.alloc V22.size (.cells #[.int .i64 x, .int .i64 y] 24)
            have RI22' := RI22.alloc (.cells #[.int .i64 x, .int .i64 y] 24)
            clear K22 V22 RI22
            have K22 := K22'
            have V22 := V22'
            have RI22 := RI22'
            clear K22' V22' RI22'
            obtain ⟨x22_0a, x22_0b, x22_0c⟩ := K22.at_ 0 rfl
            obtain ⟨x22_12a, x22_12b, x22_12c⟩ := K22.at_ 12 rfl
            have kE := run_eqF x y x y true (by simp)
            have kGe := run_guardF .eql
            clear kGI K22 RI22
            go_wp2
            go_ret
            refine ⟨by first | rfl | (simp), ?_⟩
            repeat' (first | (with_reducible exact Below.refl _ _) | (with_reducible assumption) | (with_reducible refine Below.alloc ?_ ?_ _) | (with_reducible refine Below.drew ?_) | (with_reducible refine bdrewN ?_ _) | (with_reducible refine Below.setCell ?_ ?_ _) | (with_reducible refine bthen ?_ (by assumption) ?_) | go_size)
          · have hpc' : (pc != 0) = true := by simp [hpc]
            clear HBK kGI
            go_wp2
            go_ret
            refine ⟨by first | rfl | (simp), ?_⟩
            repeat' (first | (with_reducible exact Below.refl _ _) | (with_reducible assumption) | (with_reducible refine Below.alloc ?_ ?_ _) | (with_reducible refine Below.drew ?_) | (with_reducible refine bdrewN ?_ _) | (with_reducible refine Below.setCell ?_ ?_ _) | (with_reducible refine bthen ?_ (by assumption) ?_) | go_size)
      · have hcc' : (cc == 0) = false := by simp [hcc]
        clear HCH
        by_cases huc : uc = 0
        · subst huc
          obtain ⟨k1, k2, k3⟩ := HUP.out rfl
          subst k1 k2 k3
          clear HUP
          obtain ⟨x19_4a, x19_4b, x19_4c⟩ := K19.at_ 4 rfl
          go_wp2_with fail
          apply Calls.mono
          · with_reducible exact kV1 _
          rintro _ w20 ⟨rfl, hb20⟩
          have K20 := K19.below hb20
          have V20 := bthen V19 hb20 V19.size
          have RI20 := RI19.below hb20 (Nat.le_refl _)
          clear x19_4a x19_4b x19_4c
          clear K19 V19 hb20 RI19
          obtain ⟨x20_3a, x20_3b, x20_3c⟩ := K20.at_ 3 rfl
          go_wp2_with fail
          apply Calls.mono
          · with_reducible exact kV2 _
          rintro _ w21 ⟨rfl, hb21⟩
          have K21 := K20.below hb21
          have V21 := bthen V20 hb21 V20.size
          have RI21 := RI20.below hb21 (Nat.le_refl _)
          clear x20_3a x20_3b x20_3c
          clear K20 V20 hb21 RI20
          clear kV1 kV2
          by_cases hpc : pc = 0
          · subst hpc
            rw [HBK.out rfl] at kGI
            clear HBK
            go_wp2_with fail
            apply Calls.mono
            · with_reducible exact kGI _ _ RI21
            rintro _ w22 ⟨rfl, hb22⟩
            have K22 := K21.below hb22
            have V22 := bthen V21 hb22 V21.size
            have RI22 := RI21.below hb22 (Nat.le_refl _)
            clear K21 V21 hb22 RI21
            have K22' := K22.box x y
            have V22' := V22.alloc V22.size (.cells #[.int .i64 x, .int .i64 y] 24)
            have RI22' := RI22.alloc (.cells #[.int .i64 x, .int .i64 y] 24)
            clear K22 V22 RI22
            have K22 := K22'
            have V22 := V22'
            have RI22 := RI22'
            clear K22' V22' RI22'
            obtain ⟨x22_0a, x22_0b, x22_0c⟩ := K22.at_ 0 rfl
            obtain ⟨x22_10a, x22_10b, x22_10c⟩ := K22.at_ 10 rfl
            have kE := run_eqF x y x y true (by simp)
            have kGe := run_guardF .eql
            clear kGI K22 RI22
            go_wp2
            go_ret
            refine ⟨by first | rfl | (simp), ?_⟩
            repeat' (first | (with_reducible exact Below.refl _ _) | (with_reducible assumption) | (with_reducible refine Below.alloc ?_ ?_ _) | (with_reducible refine Below.drew ?_) | (with_reducible refine bdrewN ?_ _) | (with_reducible refine Below.setCell ?_ ?_ _) | (with_reducible refine bthen ?_ (by assumption) ?_) | go_size)
          · have hpc' : (pc != 0) = true := by simp [hpc]
            clear HBK kGI
            go_wp2
            go_ret
            refine ⟨by first | rfl | (simp), ?_⟩
            repeat' (first | (with_reducible exact Below.refl _ _) | (with_reducible assumption) | (with_reducible refine Below.alloc ?_ ?_ _) | (with_reducible refine Below.drew ?_) | (with_reducible refine bdrewN ?_ _) | (with_reducible refine Below.setCell ?_ ?_ _) | (with_reducible refine bthen ?_ (by assumption) ?_) | go_size)
        · have huc' : (uc == 0) = false := by simp [huc]
          clear HUP kV1 kV2
          by_cases hpc : pc = 0
          · subst hpc
            rw [HBK.out rfl] at kGI
            clear HBK
            go_wp2_with fail
            apply Calls.mono
            · with_reducible exact kGI _ _ RI19
            rintro _ w20 ⟨rfl, hb20⟩
            have K20 := K19.below hb20
            have V20 := bthen V19 hb20 V19.size
            have RI20 := RI19.below hb20 (Nat.le_refl _)
            clear K19 V19 hb20 RI19
            have K20' := K20.box x y
            have V20' := V20.alloc V20.size (.cells #[.int .i64 x, .int .i64 y] 24)
            have RI20' := RI20.alloc (.cells #[.int .i64 x, .int .i64 y] 24)
            clear K20 V20 RI20
            have K20 := K20'
            have V20 := V20'
            have RI20 := RI20'
            clear K20' V20' RI20'
            obtain ⟨x20_0a, x20_0b, x20_0c⟩ := K20.at_ 0 rfl
            obtain ⟨x20_10a, x20_10b, x20_10c⟩ := K20.at_ 10 rfl
            have kE := run_eqF x y x y true (by simp)
            have kGe := run_guardF .eql
            clear kGI K20 RI20
            go_wp2
            go_ret
            refine ⟨by first | rfl | (simp), ?_⟩
            repeat' (first | (with_reducible exact Below.refl _ _) | (with_reducible assumption) | (with_reducible refine Below.alloc ?_ ?_ _) | (with_reducible refine Below.drew ?_) | (with_reducible refine bdrewN ?_ _) | (with_reducible refine Below.setCell ?_ ?_ _) | (with_reducible refine bthen ?_ (by assumption) ?_) | go_size)
          · have hpc' : (pc != 0) = true := by simp [hpc]
            clear HBK kGI
            go_wp2
            go_ret
            refine ⟨by first | rfl | (simp), ?_⟩
            repeat' (first | (with_reducible exact Below.refl _ _) | (with_reducible assumption) | (with_reducible refine Below.alloc ?_ ?_ _) | (with_reducible refine Below.drew ?_) | (with_reducible refine bdrewN ?_ _) | (with_reducible refine Below.setCell ?_ ?_ _) | (with_reducible refine bthen ?_ (by assumption) ?_) | go_size)
    · have hfc' : (fc == 0) = false := by simp [hfc]
      clear HFP kO RP17
      by_cases hcc : cc = 0
      · subst hcc
        obtain ⟨k1, k2⟩ := HCH.out rfl
        have kA := fun w => parentI_any l1 l2 w
        have kB := fun w => parentI_any r1 r2 w
        rw [k1] at kA
        rw [k2] at kB
        clear HCH k1 k2
        obtain ⟨x17_8a, x17_8b, x17_8c⟩ := K17.at_ 8 rfl
        go_wp2_with fail
        apply Calls.mono
        · with_reducible exact kA _
        rintro _ w18 ⟨rfl, hb18⟩
        have K18 := K17.below hb18
        have V18 := bthen V17 hb18 V17.size
        have RI18 := RI17.below hb18 (Nat.le_refl _)
        clear x17_8a x17_8b x17_8c
        clear K17 V17 hb18 RI17
        have K18' := K18.box x y
        have V18' := V18.alloc V18.size (.cells #[.int .i64 x, .int .i64 y] 24)
        have RI18' := RI18.alloc (.cells #[.int .i64 x, .int .i64 y] 24)
        clear K18 V18 RI18
        have K18 := K18'
        have V18 := V18'
        have RI18 := RI18'
        clear K18' V18' RI18'
        obtain ⟨x18_8a, x18_8b, x18_8c⟩ := K18.at_ 8 rfl
        go_wp2_with fail
        apply Calls.mono
        · with_reducible exact kB _
        rintro _ w19 ⟨rfl, hb19⟩
        have K19 := K18.below hb19
        have V19 := bthen V18 hb19 V18.size
        have RI19 := RI18.below hb19 (Nat.le_refl _)
        clear x18_8a x18_8b x18_8c
        clear K18 V18 hb19 RI18
        have K19' := K19.box x y
        have V19' := V19.alloc V19.size (.cells #[.int .i64 x, .int .i64 y] 24)
        have RI19' := RI19.alloc (.cells #[.int .i64 x, .int .i64 y] 24)
        clear K19 V19 RI19
        have K19 := K19'
        have V19 := V19'
        have RI19 := RI19'
        clear K19' V19' RI19'
        clear kA kB
        obtain ⟨x19_0a, x19_0b, x19_0c⟩ := K19.at_ 0 rfl
        obtain ⟨x19_1a, x19_1b, x19_1c⟩ := K19.at_ 1 rfl
        obtain ⟨x19_11a, x19_11b, x19_11c⟩ := K19.at_ 11 rfl
        by_cases huc : uc = 0
        · subst huc
          obtain ⟨k1, k2, k3⟩ := HUP.out rfl
          subst k1 k2 k3
          clear HUP
          obtain ⟨x19_6a, x19_6b, x19_6c⟩ := K19.at_ 6 rfl
          go_wp2_with fail
          apply Calls.mono
          · with_reducible exact kV1 _
          rintro _ w20 ⟨rfl, hb20⟩
          have K20 := K19.below hb20
          have V20 := bthen V19 hb20 V19.size
          have RI20 := RI19.below hb20 (Nat.le_refl _)
          clear x19_0a x19_0b x19_0c x19_1a x19_1b x19_1c x19_11a x19_11b x19_11c x19_6a x19_6b x19_6c
          clear K19 V19 hb20 RI19
          obtain ⟨x20_5a, x20_5b, x20_5c⟩ := K20.at_ 5 rfl
          go_wp2_with fail
          apply Calls.mono
          · with_reducible exact kV2 _
          rintro _ w21 ⟨rfl, hb21⟩
          have K21 := K20.below hb21
          have V21 := bthen V20 hb21 V20.size
          have RI21 := RI20.below hb21 (Nat.le_refl _)
          clear x20_5a x20_5b x20_5c
          clear K20 V20 hb21 RI20
          clear kV1 kV2
          by_cases hpc : pc = 0
          · subst hpc
            rw [HBK.out rfl] at kGI
            clear HBK
            go_wp2_with fail
            apply Calls.mono
            · with_reducible exact kGI _ _ RI21
            rintro _ w22 ⟨rfl, hb22⟩
            have K22 := K21.below hb22
            have V22 := bthen V21 hb22 V21.size
            have RI22 := RI21.below hb22 (Nat.le_refl _)
            clear K21 V21 hb22 RI21
            have K22' := K22.box x y
            have V22' := V22.alloc V22.size (.cells #[.int .i64 x, .int .i64 y] 24)
            have RI22' := RI22.alloc (.cells #[.int .i64 x, .int .i64 y] 24)
            clear K22 V22 RI22
            have K22 := K22'
            have V22 := V22'
            have RI22 := RI22'
            clear K22' V22' RI22'
            obtain ⟨x22_0a, x22_0b, x22_0c⟩ := K22.at_ 0 rfl
            obtain ⟨x22_12a, x22_12b, x22_12c⟩ := K22.at_ 12 rfl
            have kE := run_eqF x y x y true (by simp)
            have kGe := run_guardF .eql
            clear kGI K22 RI22
            go_wp2
            go_ret
            refine ⟨by first | rfl | (simp), ?_⟩
            repeat' (first | (with_reducible exact Below.refl _ _) | (with_reducible assumption) | (with_reducible refine Below.alloc ?_ ?_ _) | (with_reducible refine Below.drew ?_) | (with_reducible refine bdrewN ?_ _) | (with_reducible refine Below.setCell ?_ ?_ _) | (with_reducible refine bthen ?_ (by assumption) ?_) | go_size)
          · have hpc' : (pc != 0) = true := by simp [hpc]
            clear HBK kGI
            go_wp2
            go_ret
            refine ⟨by first | rfl | (simp), ?_⟩
            repeat' (first | (with_reducible exact Below.refl _ _) | (with_reducible assumption) | (with_reducible refine Below.alloc ?_ ?_ _) | (with_reducible refine Below.drew ?_) | (with_reducible refine bdrewN ?_ _) | (with_reducible refine Below.setCell ?_ ?_ _) | (with_reducible refine bthen ?_ (by assumption) ?_) | go_size)
        · have huc' : (uc == 0) = false := by simp [huc]
          clear HUP kV1 kV2
          by_cases hpc : pc = 0
          · subst hpc
            rw [HBK.out rfl] at kGI
            clear HBK
            go_wp2_with fail
            apply Calls.mono
            · with_reducible exact kGI _ _ RI19
            rintro _ w20 ⟨rfl, hb20⟩
            have K20 := K19.below hb20
            have V20 := bthen V19 hb20 V19.size
            have RI20 := RI19.below hb20 (Nat.le_refl _)
            clear x19_0a x19_0b x19_0c x19_1a x19_1b x19_1c x19_11a x19_11b x19_11c
            clear K19 V19 hb20 RI19
            have K20' := K20.box x y
            have V20' := V20.alloc V20.size (.cells #[.int .i64 x, .int .i64 y] 24)
            have RI20' := RI20.alloc (.cells #[.int .i64 x, .int .i64 y] 24)
            clear K20 V20 RI20
            have K20 := K20'
            have V20 := V20'
            have RI20 := RI20'
            clear K20' V20' RI20'
            obtain ⟨x20_0a, x20_0b, x20_0c⟩ := K20.at_ 0 rfl
            obtain ⟨x20_12a, x20_12b, x20_12c⟩ := K20.at_ 12 rfl
            have kE := run_eqF x y x y true (by simp)
            have kGe := run_guardF .eql
            clear kGI K20 RI20
            go_wp2
            go_ret
            refine ⟨by first | rfl | (simp), ?_⟩
            repeat' (first | (with_reducible exact Below.refl _ _) | (with_reducible assumption) | (with_reducible refine Below.alloc ?_ ?_ _) | (with_reducible refine Below.drew ?_) | (with_reducible refine bdrewN ?_ _) | (with_reducible refine Below.setCell ?_ ?_ _) | (with_reducible refine bthen ?_ (by assumption) ?_) | go_size)
          · have hpc' : (pc != 0) = true := by simp [hpc]
            clear HBK kGI
            go_wp2
            go_ret
            refine ⟨by first | rfl | (simp), ?_⟩
            repeat' (first | (with_reducible exact Below.refl _ _) | (with_reducible assumption) | (with_reducible refine Below.alloc ?_ ?_ _) | (with_reducible refine Below.drew ?_) | (with_reducible refine bdrewN ?_ _) | (with_reducible refine Below.setCell ?_ ?_ _) | (with_reducible refine bthen ?_ (by assumption) ?_) | go_size)
      · have hcc' : (cc == 0) = false := by simp [hcc]
        clear HCH
        by_cases huc : uc = 0
        · subst huc
          obtain ⟨k1, k2, k3⟩ := HUP.out rfl
          subst k1 k2 k3
          clear HUP
          obtain ⟨x17_4a, x17_4b, x17_4c⟩ := K17.at_ 4 rfl
          go_wp2_with fail
          apply Calls.mono
          · with_reducible exact kV1 _
          rintro _ w18 ⟨rfl, hb18⟩
          have K18 := K17.below hb18
          have V18 := bthen V17 hb18 V17.size
          have RI18 := RI17.below hb18 (Nat.le_refl _)
          clear x17_4a x17_4b x17_4c
          clear K17 V17 hb18 RI17
          obtain ⟨x18_3a, x18_3b, x18_3c⟩ := K18.at_ 3 rfl
          go_wp2_with fail
          apply Calls.mono
          · with_reducible exact kV2 _
          rintro _ w19 ⟨rfl, hb19⟩
          have K19 := K18.below hb19
          have V19 := bthen V18 hb19 V18.size
          have RI19 := RI18.below hb19 (Nat.le_refl _)
          clear x18_3a x18_3b x18_3c
          clear K18 V18 hb19 RI18
          clear kV1 kV2
          by_cases hpc : pc = 0
          · subst hpc
            rw [HBK.out rfl] at kGI
            clear HBK
            go_wp2_with fail
            apply Calls.mono
            · with_reducible exact kGI _ _ RI19
            rintro _ w20 ⟨rfl, hb20⟩
            have K20 := K19.below hb20
            have V20 := bthen V19 hb20 V19.size
            have RI20 := RI19.below hb20 (Nat.le_refl _)
            clear K19 V19 hb20 RI19
            have K20' := K20.box x y
            have V20' := V20.alloc V20.size (.cells #[.int .i64 x, .int .i64 y] 24)
            have RI20' := RI20.alloc (.cells #[.int .i64 x, .int .i64 y] 24)
            clear K20 V20 RI20
            have K20 := K20'
            have V20 := V20'
            have RI20 := RI20'
            clear K20' V20' RI20'
            obtain ⟨x20_0a, x20_0b, x20_0c⟩ := K20.at_ 0 rfl
            obtain ⟨x20_10a, x20_10b, x20_10c⟩ := K20.at_ 10 rfl
            have kE := run_eqF x y x y true (by simp)
            have kGe := run_guardF .eql
            clear kGI K20 RI20
            go_wp2
            go_ret
            refine ⟨by first | rfl | (simp), ?_⟩
            repeat' (first | (with_reducible exact Below.refl _ _) | (with_reducible assumption) | (with_reducible refine Below.alloc ?_ ?_ _) | (with_reducible refine Below.drew ?_) | (with_reducible refine bdrewN ?_ _) | (with_reducible refine Below.setCell ?_ ?_ _) | (with_reducible refine bthen ?_ (by assumption) ?_) | go_size)
          · have hpc' : (pc != 0) = true := by simp [hpc]
            clear HBK kGI
            go_wp2
            go_ret
            refine ⟨by first | rfl | (simp), ?_⟩
            repeat' (first | (with_reducible exact Below.refl _ _) | (with_reducible assumption) | (with_reducible refine Below.alloc ?_ ?_ _) | (with_reducible refine Below.drew ?_) | (with_reducible refine bdrewN ?_ _) | (with_reducible refine Below.setCell ?_ ?_ _) | (with_reducible refine bthen ?_ (by assumption) ?_) | go_size)
        · have huc' : (uc == 0) = false := by simp [huc]
          clear HUP kV1 kV2
          by_cases hpc : pc = 0
          · subst hpc
            rw [HBK.out rfl] at kGI
            clear HBK
            go_wp2_with fail
            apply Calls.mono
            · with_reducible exact kGI _ _ RI17
            rintro _ w18 ⟨rfl, hb18⟩
            have K18 := K17.below hb18
            have V18 := bthen V17 hb18 V17.size
            have RI18 := RI17.below hb18 (Nat.le_refl _)
            clear K17 V17 hb18 RI17
            have K18' := K18.box x y
            have V18' := V18.alloc V18.size (.cells #[.int .i64 x, .int .i64 y] 24)
            have RI18' := RI18.alloc (.cells #[.int .i64 x, .int .i64 y] 24)
            clear K18 V18 RI18
            have K18 := K18'
            have V18 := V18'
            have RI18 := RI18'
            clear K18' V18' RI18'
            obtain ⟨x18_0a, x18_0b, x18_0c⟩ := K18.at_ 0 rfl
            obtain ⟨x18_10a, x18_10b, x18_10c⟩ := K18.at_ 10 rfl
            have kE := run_eqF x y x y true (by simp)
            have kGe := run_guardF .eql
            clear kGI K18 RI18
            go_wp2
            go_ret
            refine ⟨by first | rfl | (simp), ?_⟩
            repeat' (first | (with_reducible exact Below.refl _ _) | (with_reducible assumption) | (with_reducible refine Below.alloc ?_ ?_ _) | (with_reducible refine Below.drew ?_) | (with_reducible refine bdrewN ?_ _) | (with_reducible refine Below.setCell ?_ ?_ _) | (with_reducible refine bthen ?_ (by assumption) ?_) | go_size)
          · have hpc' : (pc != 0) = true := by simp [hpc]
            clear HBK kGI
            go_wp2
            go_ret
            refine ⟨by first | rfl | (simp), ?_⟩
            repeat' (first | (with_reducible exact Below.refl _ _) | (with_reducible assumption) | (with_reducible refine Below.alloc ?_ ?_ _) | (with_reducible refine Below.drew ?_) | (with_reducible refine bdrewN ?_ _) | (with_reducible refine Below.setCell ?_ ?_ _) | (with_reducible refine bthen ?_ (by assumption) ?_) | go_size)
  · have kB := fun w => f6big_any a n c true (by simp; omega) w
    clear hr hl
    go_enter Try.func5, Try.ntmps5
    go_wp2_with fail
    apply Calls.mono
    · with_reducible exact kB _
    rintro _ w1 ⟨rfl, bel1⟩
    go_wp2
    go_ret
    refine ⟨by first | rfl | (simp), ?_⟩
    repeat' (first | (with_reducible exact Below.refl _ _) | (with_reducible assumption) | (with_reducible refine Below.alloc ?_ ?_ _) | (with_reducible refine Below.drew ?_) | (with_reducible refine bdrewN ?_ _) | (with_reducible refine Below.setCell ?_ ?_ _) | (with_reducible refine bthen ?_ (by assumption) ?_) | go_size)
set_option maxRecDepth 100000 in
theorem lifted_FnTree (os : Os) (started : os.Started) (H : Type) (enc : TypeId × Value → H) :
    ReturnsInHanded {} Try.checked os 5 .any (Rows.fnTreeSpec.pre6 enc Try.prog Try.f5 Rows.fnTreeRow.domain false) (Rows.fnTreeSpec.post enc Try.prog Try.f5 false true false false) := by
  refine returnsInHanded_of_change (C := Try.checked) own started (by kernel_rfl) Try.func5
    (ChangeSpec.witness6 (enc := enc) (C := Try.checked) false ⟨#[], #[.slice none 0 0], []⟩ 8 (by kernel_rfl) (by kernel_rfl) (by kernel_rfl) (by kernel_rfl)) ?_
  intro W base args ds gs before hval0 hW hcnd _
  have hval : ∀ (j : Nat) t v, Try.f5.params[j]? = some t → args[j]? = some v → Value.okWide Try.prog W .any base t v := hval0
  have hW' := hW
  obtain ⟨p, q, hA0, hV, rfl, hfz, hnd⟩ := hW
  have hA : DataW.TrodAll enc Try.prog W 0 (fun _ => true) true Try.f5.params.toList args.toList ds p := hA0
  rw [Try.params5] at hA hval
  obtain ⟨v0, vs0, d0, ds0, p0, q0, hargs, rfl, rfl, h0, r0⟩ := trodAll_cons hA
  obtain ⟨rfl, rfl, rfl⟩ := trodAll_nil r0
  obtain rfl : args = #[v0] := by cases args; simp_all
  obtain ⟨rfl, rfl⟩ := trodVars_none hV
  have k0 := h0
  have lt0 : ∀ x ∈ p0, x.block < W.heap.size := by obtain ⟨m, hm⟩ := k0; exact DataW.trod_lt m _ _ _ hm
  obtain ⟨a0, len0, cap0, rfl⟩ := okWide_slice Try.underlying32 (hval 0 32 v0 rfl rfl)
  obtain ⟨z0, ir0⟩ : ∃ zs, IsRow .u8 W a0 len0 cap0 zs := by
    obtain ⟨fuel, hf⟩ := h0
    rcases open_ints Try.underlying32 Try.underlying5 (by kernel_rfl) hf with ⟨hcs, _⟩ | ⟨x, l, c, zs, hcs, _, hl, hm, hz, _, hcell, hwz⟩
    · simp [Value.cells] at hcs
      obtain ⟨rfl, rfl, rfl⟩ := hcs
      exact ⟨[], .inl ⟨rfl, rfl, rfl, rfl⟩⟩
    · simp [Value.cells] at hcs
      obtain ⟨rfl, rfl, rfl⟩ := hcs
      exact ⟨zs, .inr ⟨_, rfl, hl, hm, by simpa using hz, hcell, hwz⟩⟩
  clear hA0 hval0
  refine (walk_FnTree a0 len0 cap0 z0 W ir0).mono fun e W' ⟨he, bel⟩ => ?_
  subst he
  exact ⟨_, rfl, _, _, _, [], _, [], hW', trodAll_mk1 (shut_bool Try.underlying4 _), (trodAll_cons_mk (Below.trod laidOut (by kernel_rfl) (of_decide_eq_true (by kernel_rfl)) k0 bel lt0) trodAll_mk0), rfl, bel.frame _, fun h => by cases h⟩
theorem over_FnTree : Rows.fnTreeRow.holds Try.pinned (OpenSpec.ofChange Rows.fnTreeSpec) :=
  OpenClaim.holds_of_wide 5 Try.f5 rfl rfl rfl rfl rfl rfl rfl ⟨rfl, rfl, rfl, rfl, rfl⟩ rfl rfl rfl rfl rfl (by kernel_rfl) Try.func5 (by kernel_rfl)
    (of_decide_eq_true (by kernel_rfl)) (by unfold Func.isWrapper; first | (rw [if_pos (by decide +kernel)]; kernel_rfl) | (rw [if_neg (by decide +kernel)]; exact ⟨rfl, rfl⟩))
    (fun os started H enc _ => lifted_FnTree os started H enc)
/-- The statement. -/
theorem holds_FnTree : Rows.FnTreeSaid := over_FnTree
#print axioms holds_FnTree
end Go.Proofs.Ytlmmpeeacjbobaa
