/-
  For all bytes the law FnNextFarey answers true.
-/
import Derived.Test.YtlmmpeeacjbobaaNg
import Derived.Test.YtlmmpeeacjbobaaNx
import Derived.Test.YtlmmpeeacjbobaaF6f
import Derived.Test.YtlmmpeeacjbobaaFarey4
import Derived.Test.YtlmmpeeacjbobaaDraw2
namespace Go.Proofs.Ytlmmpeeacjbobaa
open Go.ChangeShapes Go.WideShapes Go.ChangeAt Go.RowKit Go.Joins
open Go.ChangeMaps (open_string shut_string)
set_option linter.unusedVariables false

/-- Boxes of fractions that a walk keeps. -/
def Kp (w : World) (t : TypeId) (l : List (Nat × Int × Int)) : Prop := ∀ p ∈ l, Blk w p.1 t #[.int .i64 p.2.1, .int .i64 p.2.2]
theorem Kp.below {w w' : World} {t : TypeId} {l : List (Nat × Int × Int)} (h : Kp w t l) (hb : Below w.heap.size w w') : Kp w' t l := fun p hp => (h p hp).below hb (h p hp).lt
theorem Kp.box {w : World} {t : TypeId} {l : List (Nat × Int × Int)} (h : Kp w t l) (n d : Int) : Kp (w.alloc (.cells #[.int .i64 n, .int .i64 d] t)) t ((w.heap.size, n, d) :: l) := by
  intro p hp
  rcases List.mem_cons.1 hp with rfl | hp
  · exact Blk.new w t _
  · exact (h p hp).alloc _
theorem Kp.nil (w : World) (t : TypeId) : Kp w t [] := fun p hp => by simp at hp
theorem Kp.sub {w : World} {t : TypeId} {l l' : List (Nat × Int × Int)} (h : Kp w t l) (hs : ∀ p ∈ l', p ∈ l) : Kp w t l' := fun p hp => h p (hs p hp)
theorem Kp.at_ {w : World} {t : TypeId} {l : List (Nat × Int × Int)} (h : Kp w t l) (i : Nat) {g : Nat} {n d : Int} (hi : l[i]? = some (g, n, d)) : w.cell? ⟨g, 0, none⟩ = some (.int .i64 n) ∧ w.cell? ⟨g, 1, none⟩ = some (.int .i64 d) ∧ g < w.heap.size := by
  have b := h _ (List.mem_of_getElem? hi)
  exact ⟨b.cell 0, b.cell 1, b.lt⟩
def NxlR (W : World) (N : Int) (k : Nat) (i : Value) (wr : World) : Prop :=
  ∃ q : Nat, 1 ≤ q ∧ N + 1 ≤ (q : Int) + (k : Int) ∧ (q : Int) ≤ N + 1 ∧ i = .int .i64 (q : Int) ∧ Below W.heap.size W wr
set_option maxHeartbeats 8000000 in
set_option maxRecDepth 100000 in
theorem walk_FnNextFarey (a : Option Addr) (n c : Nat) (zs : List Int) (w : World) (hr : IsRow .u8 w a n c zs) :
    Calls Try.prog 7 #[.slice a n c] w (Ret w (.bool true)) := by
  by_cases hl : n ≤ 4096
  · have hrd := byteRd_of_row hr
    have kB := fun w => f6big_any a n c false (by simp [hl]) w
    have HRD := Lib.hid (fun w' (hb : Below w.heap.size w w') => hrd.below hb)
    have hn5 : n ≤ 100000 := by omega
    clear hr hrd
    go_enter Try.func7, Try.ntmps7
    go_wp2_with fail
    apply Calls.mono
    · with_reducible exact kB _
    rintro _ w1 ⟨rfl, V1⟩
    have K1 := Kp.nil w1 24
    clear kB
    go_wp2_with fail
    apply Calls.mono
    · with_reducible exact drawNextFarey_any _ _ _ _ hn5 (HRD.out w1 V1)
    rintro _ w2 ⟨N, x, y, rfl, hb2⟩
    have K2 := K1.below hb2
    have V2 := bthen V1 hb2 V1.size
    clear K1 V1 hb2
    have kNI := fun w => nextFareyI_any N x y w
    have kNS := fun w => nextFareyS_any N x y w
    have kBI := fun w => beforeFareyI_any N x y w
    have kBS := fun w => beforeFareyS_any N x y w
    have hlaw := next_law (N := N) (n := x) (d := y)
    generalize (nextM N x y).1 = a1 at *
    generalize (befM N x y).1 = b1 at *
    generalize (nextM N x y).2.1 = a2 at *
    generalize (befM N x y).2.1 = b2 at *
    generalize (nextM N x y).2.2 = a3 at *
    generalize (befM N x y).2.2 = b3 at *
    have HLAW := Lib.hid hlaw
    clear hlaw
    have K2' := K2.box (x) (y)
    have V2' := V2.alloc V2.size (.cells #[.int .i64 (x), .int .i64 (y)] 24)
    clear K2 V2
    have K2 := K2'
    have V2 := V2'
    clear K2' V2'
    obtain ⟨x2_0a, x2_0b, x2_0c⟩ := K2.at_ 0 rfl
    go_wp2_with fail
    apply Calls.mono
    · with_reducible exact kNI _
    rintro _ w3 ⟨rfl, hb3⟩
    have K3 := K2.below hb3
    have V3 := bthen V2 hb3 V2.size
    clear x2_0a x2_0b x2_0c
    clear K2 V2 hb3
    have K3' := K3.box (a1) (a2)
    have V3' := V3.alloc V3.size (.cells #[.int .i64 (a1), .int .i64 (a2)] 24)
    clear K3 V3
    have K3 := K3'
    have V3 := V3'
    clear K3' V3'
    obtain ⟨x3_1a, x3_1b, x3_1c⟩ := K3.at_ 1 rfl
    go_wp2_with fail
    apply Calls.mono
    · with_reducible exact kNS _
    rintro _ w4 ⟨rfl, hb4⟩
    have K4 := K3.below hb4
    have V4 := bthen V3 hb4 V3.size
    clear x3_1a x3_1b x3_1c
    clear K3 V3 hb4
    have K4' := K4.box (a1) (a2)
    have V4' := V4.alloc V4.size (.cells #[.int .i64 (a1), .int .i64 (a2)] 24)
    clear K4 V4
    have K4 := K4'
    have V4 := V4'
    clear K4' V4'
    obtain ⟨x4_2a, x4_2b, x4_2c⟩ := K4.at_ 2 rfl
    go_wp2_with fail
    apply Calls.mono
    · with_reducible exact kBI _
    rintro _ w5 ⟨rfl, hb5⟩
    have K5 := K4.below hb5
    have V5 := bthen V4 hb5 V4.size
    clear x4_2a x4_2b x4_2c
    clear K4 V4 hb5
    have K5' := K5.box (b1) (b2)
    have V5' := V5.alloc V5.size (.cells #[.int .i64 (b1), .int .i64 (b2)] 24)
    clear K5 V5
    have K5 := K5'
    have V5 := V5'
    clear K5' V5'
    obtain ⟨x5_3a, x5_3b, x5_3c⟩ := K5.at_ 3 rfl
    go_wp2_with fail
    apply Calls.mono
    · with_reducible exact kBS _
    rintro _ w6 ⟨rfl, hb6⟩
    have K6 := K5.below hb6
    have V6 := bthen V5 hb6 V5.size
    clear x5_3a x5_3b x5_3c
    clear K5 V5 hb6
    have K6' := K6.box (b1) (b2)
    have V6' := V6.alloc V6.size (.cells #[.int .i64 (b1), .int .i64 (b2)] 24)
    clear K6 V6
    have K6 := K6'
    have V6 := V6'
    clear K6' V6'
    clear kNI kNS kBI kBS
    go_wp2_with fail
    apply Calls.mono
    · with_reducible exact drawFareyRank_any _ _ _ _ hn5 (HRD.out _ V6)
    rintro _ w7 ⟨O, u, v, rfl, hb7⟩
    have K7 := K6.below hb7
    have V7 := bthen V6 hb7 V6.size
    clear K6 V6 hb7
    have kRI := fun w => fareyRankI_any O u v w
    have kRS := fun w => fareyRankS_any O u v w
    have kTI := fun w => touchingI_any O u v w
    have kTS := fun w => touchingS_any O u v w
    generalize (rankM O u v).1 = r1 at *
    generalize (rankM O u v).2 = r2 at *
    generalize (touchM O u v).1 = xs at *
    generalize (touchM O u v).2 = tc at *
    have K7' := K7.box (u) (v)
    have V7' := V7.alloc V7.size (.cells #[.int .i64 (u), .int .i64 (v)] 24)
    clear K7 V7
    have K7 := K7'
    have V7 := V7'
    clear K7' V7'
    obtain ⟨x7_0a, x7_0b, x7_0c⟩ := K7.at_ 0 rfl
    go_wp2_with fail
    apply Calls.mono
    · with_reducible exact kRI _
    rintro _ w8 ⟨rfl, hb8⟩
    have K8 := K7.below hb8
    have V8 := bthen V7 hb8 V7.size
    clear x7_0a x7_0b x7_0c
    clear K7 V7 hb8
    obtain ⟨x8_0a, x8_0b, x8_0c⟩ := K8.at_ 0 rfl
    go_wp2_with fail
    apply Calls.mono
    · with_reducible exact kRS _
    rintro _ w9 ⟨rfl, hb9⟩
    have K9 := K8.below hb9
    have V9 := bthen V8 hb9 V8.size
    clear x8_0a x8_0b x8_0c
    clear K8 V8 hb9
    obtain ⟨x9_0a, x9_0b, x9_0c⟩ := K9.at_ 0 rfl
    go_wp2_with fail
    apply Calls.mono
    · with_reducible exact kTI _
    rintro _ w10 ⟨vi, rfl, hoi, hb10⟩
    have K10 := K9.below hb10
    have V10 := bthen V9 hb10 V9.size
    clear x9_0a x9_0b x9_0c
    clear K9 V9 hb10
    obtain ⟨x10_0a, x10_0b, x10_0c⟩ := K10.at_ 0 rfl
    go_wp2_with fail
    apply Calls.mono
    · with_reducible exact kTS _
    rintro _ w11 ⟨vs, rfl, hos, hb11⟩
    have K11 := K10.below hb11
    have HBI := Lib.hid hb11
    have V11 := bthen V10 hb11 V10.size
    clear x10_0a x10_0b x10_0c
    clear K10 V10 hb11
    obtain ⟨ai, ci, rfl, -⟩ := id (Rd.of_own hoi)
    obtain ⟨bs, cs, rfl, -⟩ := id (Rd.of_own hos)
    have hoi := own_below hoi HBI.out (Nat.le_refl _)
    have RI := Lib.hid (fun w' (hb : Below w11.heap.size w11 w') => (Rd.of_own hoi).below hb (Nat.le_refl _))
    have RS := Lib.hid (fun w' (hb : Below w11.heap.size w11 w') => (Rd.of_own hos).below hb (Nat.le_refl _))
    have U11 := Below.refl w11.heap.size w11
    clear hoi hos
    clear kRI kRS kTI kTS
    go_wp2_with fail
    apply Calls.mono
    · with_reducible exact drawCircleOf_any _ _ _ _ hn5 (HRD.out _ V11)
    rintro _ w12 ⟨p, q, rfl, hb12⟩
    have K12 := K11.below hb12
    have V12 := bthen V11 hb12 V11.size
    have U12 := bthen U11 hb12 U11.size
    clear K11 V11 hb12
    have kCI := fun w => circleOfI_any p q w
    have kCS := fun w => circleOfS_any p q w
    generalize (circM p q).1 = d1 at *
    generalize (circM p q).2.1 = d2 at *
    generalize (circM p q).2.2 = d3 at *
    have K12' := K12.box (p) (q)
    have V12' := V12.alloc V12.size (.cells #[.int .i64 (p), .int .i64 (q)] 24)
    have U12' := U12.alloc U12.size (.cells #[.int .i64 (p), .int .i64 (q)] 24)
    clear K12 V12
    have K12 := K12'
    have V12 := V12'
    clear U12
    have U12 := U12'
    clear U12'
    clear K12' V12'
    obtain ⟨x12_0a, x12_0b, x12_0c⟩ := K12.at_ 0 rfl
    go_wp2_with fail
    apply Calls.mono
    · with_reducible exact kCI _
    rintro _ w13 ⟨rfl, hb13⟩
    have K13 := K12.below hb13
    have V13 := bthen V12 hb13 V12.size
    have U13 := bthen U12 hb13 U12.size
    clear x12_0a x12_0b x12_0c
    clear K12 V12 hb13
    have K13' := K13.box (d1) (d2)
    have V13' := V13.alloc V13.size (.cells #[.int .i64 (d1), .int .i64 (d2)] 24)
    have U13' := U13.alloc U13.size (.cells #[.int .i64 (d1), .int .i64 (d2)] 24)
    clear K13 V13
    have K13 := K13'
    have V13 := V13'
    clear U13
    have U13 := U13'
    clear U13'
    clear K13' V13'
    obtain ⟨x13_1a, x13_1b, x13_1c⟩ := K13.at_ 1 rfl
    go_wp2_with fail
    apply Calls.mono
    · with_reducible exact kCS _
    rintro _ w14 ⟨rfl, hb14⟩
    have K14 := K13.below hb14
    have V14 := bthen V13 hb14 V13.size
    have U14 := bthen U13 hb14 U13.size
    clear x13_1a x13_1b x13_1c
    clear K13 V13 hb14
    have K14' := K14.box (d1) (d2)
    have V14' := V14.alloc V14.size (.cells #[.int .i64 (d1), .int .i64 (d2)] 24)
    have U14' := U14.alloc U14.size (.cells #[.int .i64 (d1), .int .i64 (d2)] 24)
    clear K14 V14
    have K14 := K14'
    have V14 := V14'
    clear U14
    have U14 := U14'
    clear U14'
    clear K14' V14'
    clear kCI kCS
    go_wp2_with fail
    apply Calls.mono
    · with_reducible exact drawCirclesTouch_any _ _ _ _ hn5 (HRD.out _ V14)
    rintro _ w15 ⟨e, f, g, h, rfl, hb15⟩
    have K15 := K14.below hb15
    have V15 := bthen V14 hb15 V14.size
    have U15 := bthen U14 hb15 U14.size
    clear K14 V14 hb15
    have kXI := fun w => circlesTouchI_any e f g h w
    have kXS := fun w => circlesTouchS_any e f g h w
    generalize (okF e f && okF g h && nbF e f g h) = tb at *
    generalize twoC e f g h = tt at *
    have K15' := K15.box (e) (f)
    have V15' := V15.alloc V15.size (.cells #[.int .i64 (e), .int .i64 (f)] 24)
    have U15' := U15.alloc U15.size (.cells #[.int .i64 (e), .int .i64 (f)] 24)
    clear K15 V15
    have K15 := K15'
    have V15 := V15'
    clear U15
    have U15 := U15'
    clear U15'
    clear K15' V15'
    have K15' := K15.box g h
    have V15' := V15.alloc V15.size (.cells #[.int .i64 g, .int .i64 h] 24)
    have U15' := U15.alloc U15.size (.cells #[.int .i64 g, .int .i64 h] 24)
    rw [World.size_alloc] at K15'
    clear K15 V15
    have K15 := K15'
    have V15 := V15'
    clear U15
    have U15 := U15'
    clear U15'
    clear K15' V15'
    obtain ⟨x15_0a, x15_0b, x15_0c⟩ := K15.at_ 0 rfl
    obtain ⟨x15_1a, x15_1b, x15_1c⟩ := K15.at_ 1 rfl
    go_wp2_with fail
    apply Calls.mono
    · with_reducible exact kXI _
    rintro _ w16 ⟨rfl, hb16⟩
    have K16 := K15.below hb16
    have V16 := bthen V15 hb16 V15.size
    have U16 := bthen U15 hb16 U15.size
    clear x15_0a x15_0b x15_0c x15_1a x15_1b x15_1c
    clear K15 V15 hb16
    obtain ⟨x16_0a, x16_0b, x16_0c⟩ := K16.at_ 0 rfl
    obtain ⟨x16_1a, x16_1b, x16_1c⟩ := K16.at_ 1 rfl
    go_wp2_with fail
    apply Calls.mono
    · with_reducible exact kXS _
    rintro _ w17 ⟨rfl, hb17⟩
    have K17 := K16.below hb17
    have V17 := bthen V16 hb17 V16.size
    have U17 := bthen U16 hb17 U16.size
    clear x16_0a x16_0b x16_0c x16_1a x16_1b x16_1c
    clear K16 V16 hb17
    clear kXI kXS
    have kNa := run_neF a1 a2 a1 a2 false (by simp)
    have kNb := run_neF b1 b2 b1 b2 false (by simp)
    have kNd := run_neF d1 d2 d1 d2 false (by simp)
    have kGd := run_guardF .neq
    obtain ⟨x17_2a, x17_2b, x17_2c⟩ := K17.at_ 2 rfl
    obtain ⟨x17_3a, x17_3b, x17_3c⟩ := K17.at_ 3 rfl
    obtain ⟨x17_6a, x17_6b, x17_6c⟩ := K17.at_ 6 rfl
    obtain ⟨x17_7a, x17_7b, x17_7c⟩ := K17.at_ 7 rfl
    obtain ⟨x17_8a, x17_8b, x17_8c⟩ := K17.at_ 8 rfl
    obtain ⟨x17_9a, x17_9b, x17_9c⟩ := K17.at_ 9 rfl
    go_wp2_with fail
    apply Calls.mono
    · with_reducible exact f6fractions_same _ _ _ xs _ (RI.out _ U17) (RS.out _ U17)
    rintro _ w18 ⟨rfl, hb18⟩
    have K18 := K17.below hb18
    have V18 := bthen V17 hb18 V17.size
    have U18 := bthen U17 hb18 U17.size
    clear x17_2a x17_2b x17_2c x17_3a x17_3b x17_3c x17_6a x17_6b x17_6c x17_7a x17_7b x17_7c x17_8a x17_8b x17_8c x17_9a x17_9b x17_9c
    clear K17 V17 hb18
    obtain ⟨x18_2a, x18_2b, x18_2c⟩ := K18.at_ 2 rfl
    obtain ⟨x18_3a, x18_3b, x18_3c⟩ := K18.at_ 3 rfl
    obtain ⟨x18_9a, x18_9b, x18_9c⟩ := K18.at_ 9 rfl
    obtain ⟨x18_10a, x18_10b, x18_10c⟩ := K18.at_ 10 rfl
    by_cases hac : a3 = 0
    · subst hac
      by_cases hN : N ≤ 300
      · obtain ⟨l1, ⟨l2, l3, l4⟩, l5, ⟨l6, l7, l8⟩, l9, l10, l11⟩ := HLAW.out rfl hN
        have kC := fun w => compareFI_any x y a1 a2 l1 l5 w
        rw [show cmpF (x * a2) (a1 * y) = -1 by unfold cmpF; rw [if_pos l9]] at kC
        have L11 := Lib.hid l11
        have hN2 : ¬ (300 < N) := by omega
        clear l1 l5 l9 l11 HLAW RI RS HRD
        go_wp2_with fail
        go_loopg [34] (N.toNat + 1) (fun k i wr => NxlR w18 N k i wr)
        case atStart => exact ⟨1, by omega, by omega, by omega, by go_num, Below.refl _ _⟩
        case round =>
          obtain ⟨q, q1, q2, q3, rfl, hbw⟩ := hrel
          have hsz := hbw.size
          have KW := K18.below hbw
          obtain ⟨y9a, y9b, y9c⟩ := KW.at_ 9 rfl
          obtain ⟨y10a, y10b, y10c⟩ := KW.at_ 10 rfl
          by_cases hq : (q : Int) ≤ N
          · have h1 := L11.out (q : Int) (by omega) hq
            have m1 := Int.mul_nonneg l2 (show (0 : Int) ≤ (q : Int) by omega)
            obtain ⟨m2, m3⟩ := mul_bd9 (a := x) (b := (q : Int)) (by omega) (by omega) (by omega) (by omega)
            have m4 : (x * (q : Int)).tdiv y = x * (q : Int) / y := Int.tdiv_eq_ediv_of_nonneg m1
            obtain ⟨m5, m6⟩ := nxt_q (n := x) (d := y) (q := (q : Int)) l2 (by omega) (by omega) (by omega)
            have m7 : y ≠ 0 := by omega
            generalize hz : x * (q : Int) / y = z at *
            obtain ⟨m8, m9⟩ := mul_bd9 (a := z + 1) (b := a2) (by omega) (by omega) (by omega) (by omega)
            obtain ⟨n1, n2⟩ := mul_bd9 (a := a1) (b := (q : Int)) (by omega) (by omega) (by omega) (by omega)
            have h2 : ¬ ((z + 1) * a2 < a1 * (q : Int)) := by omega
            clear hz h1 KW
            go_wp2
            go_roundg (gk - 1)
            case measure => omega
            case rel => exact ⟨q + 1, by omega, by omega, by omega, by go_num, hbw⟩
          · go_wp2_with fail
            apply Calls.mono
            · with_reducible exact kC _
            rintro _ wz ⟨rfl, hbz⟩
            have KZ := KW.below hbz
            obtain ⟨za, zb, zc⟩ := KZ.at_ 9 rfl
            have VZ := bthen V18 (bthen hbw hbz hbw.size) V18.size
            clear KW KZ hbz hbw
            go_wp2
            go_ret
            refine ⟨by first | rfl | (simp), ?_⟩
            repeat' (first | (with_reducible exact Below.refl _ _) | (with_reducible assumption) | (with_reducible refine Below.alloc ?_ ?_ _) | (with_reducible refine Below.drew ?_) | (with_reducible refine bdrewN ?_ _) | (with_reducible refine Below.setCell ?_ ?_ _) | (with_reducible refine bthen ?_ (by assumption) ?_) | go_size)
      · have hN2 : (300 : Int) < N := by omega
        clear HLAW RI RS HRD
        go_wp2
        go_ret
        refine ⟨by first | rfl | (simp), ?_⟩
        repeat' (first | (with_reducible exact Below.refl _ _) | (with_reducible assumption) | (with_reducible refine Below.alloc ?_ ?_ _) | (with_reducible refine Below.drew ?_) | (with_reducible refine bdrewN ?_ _) | (with_reducible refine Below.setCell ?_ ?_ _) | (with_reducible refine bthen ?_ (by assumption) ?_) | go_size)
    · have hac' : (a3 != 0) = true := by simp [hac]
      clear HLAW RI RS HRD
      go_wp2
      go_ret
      refine ⟨by first | rfl | (simp), ?_⟩
      repeat' (first | (with_reducible exact Below.refl _ _) | (with_reducible assumption) | (with_reducible refine Below.alloc ?_ ?_ _) | (with_reducible refine Below.drew ?_) | (with_reducible refine bdrewN ?_ _) | (with_reducible refine Below.setCell ?_ ?_ _) | (with_reducible refine bthen ?_ (by assumption) ?_) | go_size)
  · have kB := fun w => f6big_any a n c true (by simp; omega) w
    clear hr hl
    go_enter Try.func7, Try.ntmps7
    go_wp2_with fail
    apply Calls.mono
    · with_reducible exact kB _
    rintro _ w1 ⟨rfl, bel1⟩
    go_wp2
    go_ret
    refine ⟨by first | rfl | (simp), ?_⟩
    repeat' (first | (with_reducible exact Below.refl _ _) | (with_reducible assumption) | (with_reducible refine Below.alloc ?_ ?_ _) | (with_reducible refine Below.drew ?_) | (with_reducible refine bdrewN ?_ _) | (with_reducible refine Below.setCell ?_ ?_ _) | (with_reducible refine bthen ?_ (by assumption) ?_) | go_size)
set_option maxRecDepth 100000 in
theorem lifted_FnNextFarey (os : Os) (started : os.Started) (H : Type) (enc : TypeId × Value → H) :
    ReturnsInHanded {} Try.checked os 7 .any (Rows.fnNextFareySpec.pre6 enc Try.prog Try.f7 Rows.fnNextFareyRow.domain false) (Rows.fnNextFareySpec.post enc Try.prog Try.f7 false true false false) := by
  refine returnsInHanded_of_change (C := Try.checked) own started (by kernel_rfl) Try.func7
    (ChangeSpec.witness6 (enc := enc) (C := Try.checked) false ⟨#[], #[.slice none 0 0], []⟩ 8 (by kernel_rfl) (by kernel_rfl) (by kernel_rfl) (by kernel_rfl)) ?_
  intro W base args ds gs before hval0 hW hcnd _
  have hval : ∀ (j : Nat) t v, Try.f7.params[j]? = some t → args[j]? = some v → Value.okWide Try.prog W .any base t v := hval0
  have hW' := hW
  obtain ⟨p, q, hA0, hV, rfl, hfz, hnd⟩ := hW
  have hA : DataW.TrodAll enc Try.prog W 0 (fun _ => true) true Try.f7.params.toList args.toList ds p := hA0
  rw [Try.params7] at hA hval
  obtain ⟨v0, vs0, d0, ds0, p0, q0, hargs, rfl, rfl, h0, r0⟩ := trodAll_cons hA
  obtain ⟨rfl, rfl, rfl⟩ := trodAll_nil r0
  obtain rfl : args = #[v0] := by cases args; simp_all
  obtain ⟨rfl, rfl⟩ := trodVars_none hV
  have k0 := h0
  have lt0 : ∀ x ∈ p0, x.block < W.heap.size := by obtain ⟨m, hm⟩ := k0; exact DataW.trod_lt m _ _ _ hm
  obtain ⟨a0, len0, cap0, rfl⟩ := okWide_slice Try.underlying32 (hval 0 32 v0 rfl rfl)
  obtain ⟨z0, ir0⟩ : ∃ zs, IsRow .u8 W a0 len0 cap0 zs := by
    obtain ⟨fuel, hf⟩ := h0
    rcases open_ints Try.underlying32 Try.underlying5 (by kernel_rfl) hf with ⟨hcs, _⟩ | ⟨x, l, c, zs, hcs, _, hl, hm, hz, _, hcell, hwz⟩
    · simp [Value.cells] at hcs
      obtain ⟨rfl, rfl, rfl⟩ := hcs
      exact ⟨[], .inl ⟨rfl, rfl, rfl, rfl⟩⟩
    · simp [Value.cells] at hcs
      obtain ⟨rfl, rfl, rfl⟩ := hcs
      exact ⟨zs, .inr ⟨_, rfl, hl, hm, by simpa using hz, hcell, hwz⟩⟩
  clear hA0 hval0
  refine (walk_FnNextFarey a0 len0 cap0 z0 W ir0).mono fun e W' ⟨he, bel⟩ => ?_
  subst he
  exact ⟨_, rfl, _, _, _, [], _, [], hW', trodAll_mk1 (shut_bool Try.underlying4 _), (trodAll_cons_mk (Below.trod laidOut (by kernel_rfl) (of_decide_eq_true (by kernel_rfl)) k0 bel lt0) trodAll_mk0), rfl, bel.frame _, fun h => by cases h⟩
theorem over_FnNextFarey : Rows.fnNextFareyRow.holds Try.pinned (OpenSpec.ofChange Rows.fnNextFareySpec) :=
  OpenClaim.holds_of_wide 7 Try.f7 rfl rfl rfl rfl rfl rfl rfl ⟨rfl, rfl, rfl, rfl, rfl⟩ rfl rfl rfl rfl rfl (by kernel_rfl) Try.func7 (by kernel_rfl)
    (of_decide_eq_true (by kernel_rfl)) (by unfold Func.isWrapper; first | (rw [if_pos (by decide +kernel)]; kernel_rfl) | (rw [if_neg (by decide +kernel)]; exact ⟨rfl, rfl⟩))
    (fun os started H enc _ => lifted_FnNextFarey os started H enc)
/-- The statement. -/
theorem holds_FnNextFarey : Rows.FnNextFareySaid := over_FnNextFarey
#print axioms holds_FnNextFarey
end Go.Proofs.Ytlmmpeeacjbobaa
