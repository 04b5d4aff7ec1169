/-
  For all bytes the law FnSurds answers true: a surd lies between its floor and the next integer, its conjugate's conjugate is itself, its equation is its own and is primitive, its text reads back, and the next surd is greater than one. Conditions: the library's tables and sentinels hold what its text lays in them (the card ties this to the text).
-/
import Derived.Test.YtibbokllongomaaDoorSds
import Derived.Test.YtibbokllongomaaDoorA2g
import Derived.Test.YtibbokllongomaaDoorSeq
import Derived.Test.YtibbokllongomaaDoorDrawS
import Derived.Test.YtibbokllongomaaDoorDraw2
import Derived.Test.YtibbokllongomaaDoorRsi
import Derived.Test.YtibbokllongomaaDoorCardR
import Derived.ShutString
namespace Go.Proofs.YtibbokllongomaaDoor
open Go.ChangeShapes Go.WideShapes Go.ChangeAt Go.RowKit Go.Joins
open Go.ChangeMaps (open_string shut_string)
set_option linter.unusedVariables false

theorem sdT_small {p d q : Int} (h : okS p d q = true) : (sdT p d q).size ≤ 1000 := by
  obtain ⟨b1, b2, b3, b4, b5, b6, _⟩ := okS_bd h
  unfold sdT
  simp only [ByteArray.size_append]
  have h1 := decB_sz p (by omega) (by omega)
  have h2 := decB_sz d (by omega) (by omega)
  have h3 := decB_sz q (by omega) (by omega)
  have e1 : (⟨#[40]⟩ : ByteArray).size = 1 := rfl
  have e2 : (⟨#[43, 114]⟩ : ByteArray).size = 2 := rfl
  have e3 : (⟨#[41, 47]⟩ : ByteArray).size = 2 := rfl
  omega
set_option maxRecDepth 100000 in
set_option maxHeartbeats 8000000 in
theorem walk_FnSurds (a : Option Addr) (n c : Nat) (zs : List Int) (w : World) (hw : Rw w) (hr : IsRow .u8 w a n c zs) :
    Calls Tryd.prog 6 #[.slice a n c] w (Ret w (.bool true)) := by
  by_cases hl : n ≤ 3000
  · have hrd := byteRd_of_row hr
    have kL := fun w => a2Long_any a none n 0 c 0 false (by simp; omega) w
    go_enter Tryd.func6, Tryd.ntmps6
    go_wp2_with fail
    apply Calls.mono
    · with_reducible exact kL _
    rintro _ w1 ⟨rfl, hb_w1⟩
    obtain ⟨hc_w1, hf_w1, hs_w1⟩ := bcell hb_w1
    try simp at hs_w1
    have hrd1 := hrd.below hb_w1
    go_wp2_with fail
    apply Calls.mono
    · with_reducible exact a2Surd_any _ _ _ _ (by omega) hrd1
    rintro _ w2 ⟨p, d, q, rfl, hok, ⟨hd1, hd2⟩, ⟨hp1, hp2⟩, ⟨hq1, hq2⟩, hb_w2⟩
    obtain ⟨hc_w2, hf_w2, hs_w2⟩ := bcell hb_w2
    try simp at hs_w2
    clear hrd hrd1 hr kL
    have F := sd_facts hok hd2 hp1 hp2 hq1 hq2
    have E := eq_law hok hd2 hp1 hp2 hq1 hq2
    have kF := fun w => floorSurdI_any p d q w
    have kLo := fun w => compareSurdEI_any p d q (flS p d q) 1 w
    have kHi := fun w => compareSurdEI_any p d q (flS p d q + 1) 1 w
    have kC := fun w => conjugateOfI_any p d q w
    have kB := fun w => conjugateOfI_any (-p) d (-q) w
    have kV := fun w => validSurdS_any (-p) d (-q) w
    have kE := fun w => equationOfI_any p d q w
    have kT := fun w h => surdTextI_any p d q w h
    have hsz := sdT_small hok
    have kR := fun w h => readSurdI_any (sdT p d q) (by omega) w h
    have kN := fun w => nextSurdI_any p d q w
    have kV2 := fun w => validSurdS_any (hdS p d q) d (tlS p d q) w
    have kM := fun w => compareSurdES_any (hdS p d q) d (tlS p d q) 1 1 w
    rw [show flM p d q = (flS p d q, 0) by unfold flM; rw [if_pos hok]] at kF
    rw [F.low] at kLo
    rw [F.high] at kHi
    rw [F.conj] at kC
    rw [F.back] at kB
    rw [F.ok2] at kV
    rw [E.cd] at kE
    rw [show sdM p d q = sdT p d q by unfold sdM; rw [if_pos hok]] at kT
    rw [sdT_list, iM_text hok] at kR
    rw [F.nx] at kN
    rw [F.ok3] at kV2
    rw [F.more] at kM
    unfold rsV at kR
    simp only [Option.getD_some, Option.isSome_some] at kR
    obtain ⟨fl1, fl2⟩ := F.fl
    obtain ⟨⟨hx1, hx2⟩, ⟨ht1, ht2⟩, haq1, haq2⟩ := F.bd
    have hsq := F.sq
    have hdef : flS p d q * q - p = hdS p d q := rfl
    obtain ⟨eX1, eX2⟩ := E.x
    obtain ⟨eY1, eY2⟩ := E.y
    obtain ⟨eZ1, eZ2⟩ := E.z
    have e1 := E.e1
    have e2 := E.e2
    have eg := E.g
    generalize sdT p d q = T at *
    generalize flS p d q = fl at *
    generalize hdS p d q = x at *
    generalize tlS p d q = t at *
    generalize (eqM p d q).1 = X at *
    generalize (eqM p d q).2.1 = Y at *
    generalize (eqM p d q).2.2.1 = Z at *
    have kG1 := fun w => a2Gcd_any X Y (by omega) (by omega) (by omega) (by omega) w
    have hg0 : Nat.gcd X.natAbs Y.natAbs ≤ X.natAbs := Nat.gcd_le_left _ (by omega)
    have kG2 := fun w => a2Gcd_any (Nat.gcd X.natAbs Y.natAbs : Nat) Z (by omega) (by omega) (by omega) (by omega) w
    rw [Int.natAbs_natCast, eg] at kG2
    generalize Nat.gcd X.natAbs Y.natAbs = G at *
    obtain ⟨m1, m1'⟩ := mul_bd (A := 80) (B := 20) (a := 2 * X) (b := p) (by omega) (by omega) hp1 hp2
    obtain ⟨m2, m2'⟩ := mul_bd (A := 40) (B := 40) (a := Y) (b := q) eY1 eY2 hq1 hq2
    obtain ⟨m3, m3'⟩ := mul_bd (A := 20) (B := 20) (a := p) (b := p) hp1 hp2 hp1 hp2
    obtain ⟨m4, m4'⟩ := mul_bd (A := 40) (B := 2000) (a := X) (b := p * p + d) (by omega) (by omega) (by omega) (by omega)
    obtain ⟨m5, m5'⟩ := mul_bd (A := 40) (B := 20) (a := Y) (b := p) eY1 eY2 hp1 hp2
    obtain ⟨m6, m6'⟩ := mul_bd (A := 800) (B := 40) (a := Y * p) (b := q) (by omega) (by omega) hq1 hq2
    obtain ⟨m7, m7'⟩ := mul_bd (A := 2000) (B := 40) (a := Z) (b := q) eZ1 eZ2 hq1 hq2
    obtain ⟨m8, m8'⟩ := mul_bd (A := 80000) (B := 40) (a := Z * q) (b := q) (by omega) (by omega) hq1 hq2
    obtain ⟨m9, m9'⟩ := mul_bd (A := 100) (B := 100) (a := x) (b := x) hx1 hx2 hx1 hx2
    obtain ⟨ma, ma'⟩ := mul_bd (A := 20000) (B := 40) (a := t) (b := q) ht1 ht2 hq1 hq2
    have z1 : (2 * X * p + Y * q != 0) = false := by simp [e1]
    have z2 : (X * (p * p + d) + Y * p * q + Z * q * q != 0) = false := by simp [e2]
    have z3 : (x == fl * q - p) = true := by simp [hdef]
    have z4 : (x * x + t * q == d) = true := by simp [hsq]
    clear F E hok e1 e2 eg hsq hdef hg0
    have g1 := run_guardS .neq
    have g2 := run_neS p d q p d q false (by simp)
    have hw2 : Rw w2 := (hw.below hb_w1).below hb_w2
    go_wp2_with fail
    apply Calls.mono
    · with_reducible exact kF _
    rintro _ w3 ⟨rfl, hb_w3⟩
    obtain ⟨hc_w3, hf_w3, hs_w3⟩ := bcell hb_w3
    try simp at hs_w3
    have hz_w3_w20 : w2.heap.size < w3.heap.size := by omega
    have hy_w3_w20 : w2.heap.size ≤ w3.heap.size := by omega
    have hx_w3_w20 : ∀ n : Nat, w2.heap.size < w3.heap.size + n := by intro n; omega
    have hv_w3_w20 : ∀ n : Nat, w2.heap.size ≤ w3.heap.size + n := by intro n; omega
    go_wp2_with fail
    apply Calls.mono
    · with_reducible exact kLo _
    rintro _ w4 ⟨rfl, hb_w4⟩
    obtain ⟨hc_w4, hf_w4, hs_w4⟩ := bcell hb_w4
    try simp at hs_w4
    have hz_w4_w20 : w2.heap.size < w4.heap.size := by omega
    have hy_w4_w20 : w2.heap.size ≤ w4.heap.size := by omega
    have hx_w4_w20 : ∀ n : Nat, w2.heap.size < w4.heap.size + n := by intro n; omega
    have hv_w4_w20 : ∀ n : Nat, w2.heap.size ≤ w4.heap.size + n := by intro n; omega
    go_wp2_with fail
    apply Calls.mono
    · with_reducible exact kHi _
    rintro _ w5 ⟨rfl, hb_w5⟩
    obtain ⟨hc_w5, hf_w5, hs_w5⟩ := bcell hb_w5
    try simp at hs_w5
    have hz_w5_w20 : w2.heap.size < w5.heap.size := by omega
    have hy_w5_w20 : w2.heap.size ≤ w5.heap.size := by omega
    have hx_w5_w20 : ∀ n : Nat, w2.heap.size < w5.heap.size + n := by intro n; omega
    have hv_w5_w20 : ∀ n : Nat, w2.heap.size ≤ w5.heap.size + n := by intro n; omega
    go_wp2_with fail
    apply Calls.mono
    · with_reducible exact kC _
    rintro _ w6 ⟨rfl, hb_w6⟩
    obtain ⟨hc_w6, hf_w6, hs_w6⟩ := bcell hb_w6
    try simp at hs_w6
    have hz_w6_w20 : w2.heap.size < w6.heap.size := by omega
    have hy_w6_w20 : w2.heap.size ≤ w6.heap.size := by omega
    have hx_w6_w20 : ∀ n : Nat, w2.heap.size < w6.heap.size + n := by intro n; omega
    have hv_w6_w20 : ∀ n : Nat, w2.heap.size ≤ w6.heap.size + n := by intro n; omega
    go_wp2_with fail
    apply Calls.mono
    · with_reducible exact kB _
    rintro _ w7 ⟨rfl, hb_w7⟩
    obtain ⟨hc_w7, hf_w7, hs_w7⟩ := bcell hb_w7
    try simp at hs_w7
    have hz_w7_w20 : w2.heap.size < w7.heap.size := by omega
    have hy_w7_w20 : w2.heap.size ≤ w7.heap.size := by omega
    have hx_w7_w20 : ∀ n : Nat, w2.heap.size < w7.heap.size + n := by intro n; omega
    have hv_w7_w20 : ∀ n : Nat, w2.heap.size ≤ w7.heap.size + n := by intro n; omega
    have hz_w7_w60 : w6.heap.size < w7.heap.size := by omega
    have hy_w7_w60 : w6.heap.size ≤ w7.heap.size := by omega
    have hx_w7_w60 : ∀ n : Nat, w6.heap.size < w7.heap.size + n := by intro n; omega
    have hv_w7_w60 : ∀ n : Nat, w6.heap.size ≤ w7.heap.size + n := by intro n; omega
    go_wp2_with fail
    apply Calls.mono
    · with_reducible exact kV _
    rintro _ w8 ⟨rfl, hb_w8⟩
    obtain ⟨hc_w8, hf_w8, hs_w8⟩ := bcell hb_w8
    try simp at hs_w8
    have hz_w8_w20 : w2.heap.size < w8.heap.size := by omega
    have hy_w8_w20 : w2.heap.size ≤ w8.heap.size := by omega
    have hx_w8_w20 : ∀ n : Nat, w2.heap.size < w8.heap.size + n := by intro n; omega
    have hv_w8_w20 : ∀ n : Nat, w2.heap.size ≤ w8.heap.size + n := by intro n; omega
    have hz_w8_w60 : w6.heap.size < w8.heap.size := by omega
    have hy_w8_w60 : w6.heap.size ≤ w8.heap.size := by omega
    have hx_w8_w60 : ∀ n : Nat, w6.heap.size < w8.heap.size + n := by intro n; omega
    have hv_w8_w60 : ∀ n : Nat, w6.heap.size ≤ w8.heap.size + n := by intro n; omega
    have hz_w8_w70 : w7.heap.size < w8.heap.size := by omega
    have hy_w8_w70 : w7.heap.size ≤ w8.heap.size := by omega
    have hx_w8_w70 : ∀ n : Nat, w7.heap.size < w8.heap.size + n := by intro n; omega
    have hv_w8_w70 : ∀ n : Nat, w7.heap.size ≤ w8.heap.size + n := by intro n; omega
    go_wp2_with fail
    apply Calls.mono
    · with_reducible exact kE _
    rintro _ w9 ⟨rfl, hb_w9⟩
    obtain ⟨hc_w9, hf_w9, hs_w9⟩ := bcell hb_w9
    try simp at hs_w9
    have hz_w9_w20 : w2.heap.size < w9.heap.size := by omega
    have hy_w9_w20 : w2.heap.size ≤ w9.heap.size := by omega
    have hx_w9_w20 : ∀ n : Nat, w2.heap.size < w9.heap.size + n := by intro n; omega
    have hv_w9_w20 : ∀ n : Nat, w2.heap.size ≤ w9.heap.size + n := by intro n; omega
    have hz_w9_w60 : w6.heap.size < w9.heap.size := by omega
    have hy_w9_w60 : w6.heap.size ≤ w9.heap.size := by omega
    have hx_w9_w60 : ∀ n : Nat, w6.heap.size < w9.heap.size + n := by intro n; omega
    have hv_w9_w60 : ∀ n : Nat, w6.heap.size ≤ w9.heap.size + n := by intro n; omega
    have hz_w9_w70 : w7.heap.size < w9.heap.size := by omega
    have hy_w9_w70 : w7.heap.size ≤ w9.heap.size := by omega
    have hx_w9_w70 : ∀ n : Nat, w7.heap.size < w9.heap.size + n := by intro n; omega
    have hv_w9_w70 : ∀ n : Nat, w7.heap.size ≤ w9.heap.size + n := by intro n; omega
    go_wp2_with fail
    all_goals
      apply Calls.mono
      · with_reducible exact kG1 _
      rintro _ w10 ⟨rfl, hb_w10⟩
      obtain ⟨hc_w10, hf_w10, hs_w10⟩ := bcell hb_w10
      try simp at hs_w10
      have hz_w10_w20 : w2.heap.size < w10.heap.size := by omega
      have hy_w10_w20 : w2.heap.size ≤ w10.heap.size := by omega
      have hx_w10_w20 : ∀ n : Nat, w2.heap.size < w10.heap.size + n := by intro n; omega
      have hv_w10_w20 : ∀ n : Nat, w2.heap.size ≤ w10.heap.size + n := by intro n; omega
      have hz_w10_w60 : w6.heap.size < w10.heap.size := by omega
      have hy_w10_w60 : w6.heap.size ≤ w10.heap.size := by omega
      have hx_w10_w60 : ∀ n : Nat, w6.heap.size < w10.heap.size + n := by intro n; omega
      have hv_w10_w60 : ∀ n : Nat, w6.heap.size ≤ w10.heap.size + n := by intro n; omega
      have hz_w10_w70 : w7.heap.size < w10.heap.size := by omega
      have hy_w10_w70 : w7.heap.size ≤ w10.heap.size := by omega
      have hx_w10_w70 : ∀ n : Nat, w7.heap.size < w10.heap.size + n := by intro n; omega
      have hv_w10_w70 : ∀ n : Nat, w7.heap.size ≤ w10.heap.size + n := by intro n; omega
      go_wp2_with fail
      apply Calls.mono
      · with_reducible exact kG2 _
      rintro _ w11 ⟨rfl, hb_w11⟩
      obtain ⟨hc_w11, hf_w11, hs_w11⟩ := bcell hb_w11
      try simp at hs_w11
      have hz_w11_w20 : w2.heap.size < w11.heap.size := by omega
      have hy_w11_w20 : w2.heap.size ≤ w11.heap.size := by omega
      have hx_w11_w20 : ∀ n : Nat, w2.heap.size < w11.heap.size + n := by intro n; omega
      have hv_w11_w20 : ∀ n : Nat, w2.heap.size ≤ w11.heap.size + n := by intro n; omega
      have hz_w11_w60 : w6.heap.size < w11.heap.size := by omega
      have hy_w11_w60 : w6.heap.size ≤ w11.heap.size := by omega
      have hx_w11_w60 : ∀ n : Nat, w6.heap.size < w11.heap.size + n := by intro n; omega
      have hv_w11_w60 : ∀ n : Nat, w6.heap.size ≤ w11.heap.size + n := by intro n; omega
      have hz_w11_w70 : w7.heap.size < w11.heap.size := by omega
      have hy_w11_w70 : w7.heap.size ≤ w11.heap.size := by omega
      have hx_w11_w70 : ∀ n : Nat, w7.heap.size < w11.heap.size + n := by intro n; omega
      have hv_w11_w70 : ∀ n : Nat, w7.heap.size ≤ w11.heap.size + n := by intro n; omega
      have bel11 : Below w2.heap.size w2 w11 := by repeat' (first | (with_reducible exact Below.refl _ _) | (with_reducible assumption) | (with_reducible refine Below.alloc ?_ ?_ _) | (with_reducible refine Below.drew ?_) | (with_reducible refine bdrewN ?_ _) | (with_reducible refine Below.setCell ?_ ?_ _) | (with_reducible refine bthen ?_ (by assumption) ?_) | go_size)
      have hw11 := hw2.below bel11
      have ht11 := hw11.1
      clear kF kLo kHi kC kB kV kE kG1 kG2 z1 z2 m1 m1' m2 m2' m3 m3' m4 m4' m5 m5' m6 m6' m7 m7' m8 m8'
      go_wp2_with fail
      apply Calls.mono
      · with_reducible exact kT _ ht11
      rintro _ w12 ⟨rfl, hb_w12⟩
      obtain ⟨hc_w12, hf_w12, hs_w12⟩ := bcell hb_w12
      try simp at hs_w12
      have hz_w12_w20 : w2.heap.size < w12.heap.size := by omega
      have hy_w12_w20 : w2.heap.size ≤ w12.heap.size := by omega
      have hx_w12_w20 : ∀ n : Nat, w2.heap.size < w12.heap.size + n := by intro n; omega
      have hv_w12_w20 : ∀ n : Nat, w2.heap.size ≤ w12.heap.size + n := by intro n; omega
      have hz_w12_w60 : w6.heap.size < w12.heap.size := by omega
      have hy_w12_w60 : w6.heap.size ≤ w12.heap.size := by omega
      have hx_w12_w60 : ∀ n : Nat, w6.heap.size < w12.heap.size + n := by intro n; omega
      have hv_w12_w60 : ∀ n : Nat, w6.heap.size ≤ w12.heap.size + n := by intro n; omega
      have hz_w12_w70 : w7.heap.size < w12.heap.size := by omega
      have hy_w12_w70 : w7.heap.size ≤ w12.heap.size := by omega
      have hx_w12_w70 : ∀ n : Nat, w7.heap.size < w12.heap.size + n := by intro n; omega
      have hv_w12_w70 : ∀ n : Nat, w7.heap.size ≤ w12.heap.size + n := by intro n; omega
      have hw12 := hw11.below hb_w12
      go_wp2_with fail
      apply Calls.mono
      · with_reducible exact kR _ hw12
      rintro _ w13 ⟨rfl, hb_w13⟩
      obtain ⟨hc_w13, hf_w13, hs_w13⟩ := bcell hb_w13
      try simp at hs_w13
      have hz_w13_w20 : w2.heap.size < w13.heap.size := by omega
      have hy_w13_w20 : w2.heap.size ≤ w13.heap.size := by omega
      have hx_w13_w20 : ∀ n : Nat, w2.heap.size < w13.heap.size + n := by intro n; omega
      have hv_w13_w20 : ∀ n : Nat, w2.heap.size ≤ w13.heap.size + n := by intro n; omega
      have hz_w13_w60 : w6.heap.size < w13.heap.size := by omega
      have hy_w13_w60 : w6.heap.size ≤ w13.heap.size := by omega
      have hx_w13_w60 : ∀ n : Nat, w6.heap.size < w13.heap.size + n := by intro n; omega
      have hv_w13_w60 : ∀ n : Nat, w6.heap.size ≤ w13.heap.size + n := by intro n; omega
      have hz_w13_w70 : w7.heap.size < w13.heap.size := by omega
      have hy_w13_w70 : w7.heap.size ≤ w13.heap.size := by omega
      have hx_w13_w70 : ∀ n : Nat, w7.heap.size < w13.heap.size + n := by intro n; omega
      have hv_w13_w70 : ∀ n : Nat, w7.heap.size ≤ w13.heap.size + n := by intro n; omega
      go_wp2_with fail
      apply Calls.mono
      · with_reducible exact kN _
      rintro _ w14 ⟨rfl, hb_w14⟩
      obtain ⟨hc_w14, hf_w14, hs_w14⟩ := bcell hb_w14
      try simp at hs_w14
      have hz_w14_w20 : w2.heap.size < w14.heap.size := by omega
      have hy_w14_w20 : w2.heap.size ≤ w14.heap.size := by omega
      have hx_w14_w20 : ∀ n : Nat, w2.heap.size < w14.heap.size + n := by intro n; omega
      have hv_w14_w20 : ∀ n : Nat, w2.heap.size ≤ w14.heap.size + n := by intro n; omega
      have hz_w14_w130 : w13.heap.size < w14.heap.size := by omega
      have hy_w14_w130 : w13.heap.size ≤ w14.heap.size := by omega
      have hx_w14_w130 : ∀ n : Nat, w13.heap.size < w14.heap.size + n := by intro n; omega
      have hv_w14_w130 : ∀ n : Nat, w13.heap.size ≤ w14.heap.size + n := by intro n; omega
      go_wp2_with fail
      apply Calls.mono
      · with_reducible exact kV2 _
      rintro _ w15 ⟨rfl, hb_w15⟩
      obtain ⟨hc_w15, hf_w15, hs_w15⟩ := bcell hb_w15
      try simp at hs_w15
      have hz_w15_w20 : w2.heap.size < w15.heap.size := by omega
      have hy_w15_w20 : w2.heap.size ≤ w15.heap.size := by omega
      have hx_w15_w20 : ∀ n : Nat, w2.heap.size < w15.heap.size + n := by intro n; omega
      have hv_w15_w20 : ∀ n : Nat, w2.heap.size ≤ w15.heap.size + n := by intro n; omega
      have hz_w15_w130 : w13.heap.size < w15.heap.size := by omega
      have hy_w15_w130 : w13.heap.size ≤ w15.heap.size := by omega
      have hx_w15_w130 : ∀ n : Nat, w13.heap.size < w15.heap.size + n := by intro n; omega
      have hv_w15_w130 : ∀ n : Nat, w13.heap.size ≤ w15.heap.size + n := by intro n; omega
      have hz_w15_w140 : w14.heap.size < w15.heap.size := by omega
      have hy_w15_w140 : w14.heap.size ≤ w15.heap.size := by omega
      have hx_w15_w140 : ∀ n : Nat, w14.heap.size < w15.heap.size + n := by intro n; omega
      have hv_w15_w140 : ∀ n : Nat, w14.heap.size ≤ w15.heap.size + n := by intro n; omega
      go_wp2_with fail
      apply Calls.mono
      · with_reducible exact kM _
      rintro _ w16 ⟨rfl, hb_w16⟩
      obtain ⟨hc_w16, hf_w16, hs_w16⟩ := bcell hb_w16
      try simp at hs_w16
      have hz_w16_w20 : w2.heap.size < w16.heap.size := by omega
      have hy_w16_w20 : w2.heap.size ≤ w16.heap.size := by omega
      have hx_w16_w20 : ∀ n : Nat, w2.heap.size < w16.heap.size + n := by intro n; omega
      have hv_w16_w20 : ∀ n : Nat, w2.heap.size ≤ w16.heap.size + n := by intro n; omega
      have hz_w16_w130 : w13.heap.size < w16.heap.size := by omega
      have hy_w16_w130 : w13.heap.size ≤ w16.heap.size := by omega
      have hx_w16_w130 : ∀ n : Nat, w13.heap.size < w16.heap.size + n := by intro n; omega
      have hv_w16_w130 : ∀ n : Nat, w13.heap.size ≤ w16.heap.size + n := by intro n; omega
      have hz_w16_w140 : w14.heap.size < w16.heap.size := by omega
      have hy_w16_w140 : w14.heap.size ≤ w16.heap.size := by omega
      have hx_w16_w140 : ∀ n : Nat, w14.heap.size < w16.heap.size + n := by intro n; omega
      have hv_w16_w140 : ∀ n : Nat, w14.heap.size ≤ w16.heap.size + n := by intro n; omega
      go_wp2
      go_ret
      refine ⟨by first | rfl | (simp), ?_⟩
      repeat' (first | (with_reducible exact Below.refl _ _) | (with_reducible assumption) | (with_reducible refine Below.alloc ?_ ?_ _) | (with_reducible refine Below.drew ?_) | (with_reducible refine bdrewN ?_ _) | (with_reducible refine Below.setCell ?_ ?_ _) | (with_reducible refine bthen ?_ (by assumption) ?_) | go_size)
  · have kL := fun w => a2Long_any a none n 0 c 0 true (by simp; omega) w
    clear hr hl hw
    go_enter Tryd.func6, Tryd.ntmps6
    go_wp2_with fail
    apply Calls.mono
    · with_reducible exact kL _
    rintro _ w1 ⟨rfl, hb_w1⟩
    obtain ⟨hc_w1, hf_w1, hs_w1⟩ := bcell hb_w1
    try simp at hs_w1
    go_wp2
    go_ret
    refine ⟨by first | rfl | (simp), ?_⟩
    repeat' (first | (with_reducible exact Below.refl _ _) | (with_reducible assumption) | (with_reducible refine Below.alloc ?_ ?_ _) | (with_reducible refine Below.drew ?_) | (with_reducible refine bdrewN ?_ _) | (with_reducible refine Below.setCell ?_ ?_ _) | (with_reducible refine bthen ?_ (by assumption) ?_) | go_size)
set_option maxRecDepth 100000 in
theorem lifted_FnSurds (os : Os) (started : os.Started) (H : Type) (enc : TypeId × Value → H) :
    ReturnsInHanded {} Tryd.checked os 6 .any (fun w args => (Rows.fnSurdsSpec.pre enc Tryd.prog Tryd.f6 [] false w args ∧ laidMetH Tryd.prog Rows.fnSurdsRow.laid w) ∧ sizedMet enc Tryd.prog Tryd.f6 (OpenSpec.ofChange Rows.fnSurdsSpec) false w args) (Rows.fnSurdsSpec.post enc Tryd.prog Tryd.f6 false true false false) := by
  refine wrap_both (C := Tryd.checked) (X := fun w _ => laidMetH Tryd.prog Rows.fnSurdsRow.laid w) (fun _ _ _ hh h => h.of_heap hh) own started (by kernel_rfl) Tryd.func6
    (ChangeSpec.witness_shaped (enc := enc) (C := Tryd.checked) (os := os) (X := fun w _ => laidMetH Tryd.prog Rows.fnSurdsRow.laid w) false (World.laidAll Tryd.prog os Rows.fnSurdsRow.laid) #[.slice none 0 0] 8 (World.laidAll_os _ _ _)
      (World.shaped_of_ZipB (by kernel_rfl) (by kernel_rfl)) (by kernel_rfl) (by kernel_rfl) (by kernel_rfl)
      (by rw [MakeChecks.laidMetH_plain _ _ _ (by kernel_rfl)]; exact laidMet_laidAll _ (by kernel_rfl) (by kernel_rfl))) ?_
  intro W base args ds gs before hval0 hW _ hL hsh
  have hL0 := hL
  rw [MakeChecks.laidMetH_plain _ _ _ (by kernel_rfl)] at hL0
  have htb : Rw W := rw_of_laid (tb_of_laid hL (by kernel_rfl) (by kernel_rfl)) hL0.tail.tail.tail hsh
  have hval : ∀ (j : Nat) t v, Tryd.f6.params[j]? = some t → args[j]? = some v → Value.okWide Tryd.prog W .any base t v := hval0
  have hW' := hW
  obtain ⟨p, q, hA0, hV, rfl, hfz, hnd⟩ := hW
  have hA : DataW.TrodAll enc Tryd.prog W 0 (fun _ => true) true Tryd.f6.params.toList args.toList ds p := hA0
  rw [Tryd.params6] at hA hval
  obtain ⟨v0, vs0, d0, ds0, p0, q0, hargs, rfl, rfl, h0, r0⟩ := trodAll_cons hA
  obtain ⟨rfl, rfl, rfl⟩ := trodAll_nil r0
  obtain rfl : args = #[v0] := by cases args; simp_all
  obtain ⟨rfl, rfl⟩ := trodVars_none hV
  have k0 := h0
  have lt0 : ∀ x ∈ p0, x.block < W.heap.size := by obtain ⟨m, hm⟩ := k0; exact DataW.trod_lt m _ _ _ hm
  obtain ⟨a0, len0, cap0, rfl⟩ := okWide_slice Tryd.underlying22 (hval 0 22 v0 rfl rfl)
  obtain ⟨z0, ir0⟩ : ∃ zs, IsRow .u8 W a0 len0 cap0 zs := by
    obtain ⟨fuel, hf⟩ := h0
    rcases open_ints Tryd.underlying22 Tryd.underlying5 (by kernel_rfl) hf with ⟨hcs, _⟩ | ⟨x, l, c, zs, hcs, _, hl, hm, hz, _, hcell, hwz⟩
    · simp [Value.cells] at hcs
      obtain ⟨rfl, rfl, rfl⟩ := hcs
      exact ⟨[], .inl ⟨rfl, rfl, rfl, rfl⟩⟩
    · simp [Value.cells] at hcs
      obtain ⟨rfl, rfl, rfl⟩ := hcs
      exact ⟨zs, .inr ⟨_, rfl, hl, hm, by simpa using hz, hcell, hwz⟩⟩
  clear hA0 hval0
  refine (walk_FnSurds a0 len0 cap0 z0 W htb ir0).mono fun e W' ⟨he, bel⟩ => ?_
  subst he
  exact ⟨_, rfl, _, _, _, [], _, [], hW', trodAll_mk1 (shut_bool Tryd.underlying4 _), (trodAll_cons_mk (Below.trod laidOut (by kernel_rfl) (of_decide_eq_true (by kernel_rfl)) k0 bel lt0) trodAll_mk0), rfl, bel.frame _, fun h => by cases h⟩
theorem over_FnSurds : Rows.fnSurdsRow.holds Tryd.pinned (OpenSpec.ofChange Rows.fnSurdsSpec) :=
  OpenClaim.holds_of_wide 6 Tryd.f6 rfl rfl rfl rfl rfl rfl rfl ⟨rfl, rfl, rfl, rfl, rfl⟩ rfl rfl rfl rfl rfl (by kernel_rfl) Tryd.func6 (by kernel_rfl)
    (of_decide_eq_true (by kernel_rfl)) (by unfold Func.isWrapper; first | (rw [if_pos (by decide +kernel)]; kernel_rfl) | (rw [if_neg (by decide +kernel)]; exact ⟨rfl, rfl⟩))
    (fun os started H enc _ => lifted_FnSurds os started H enc)
/-- The tied card. -/
theorem holds_FnSurds : Rows.FnSurdsCardSaid :=
  Claim7.holds_tied_plain_at .later [] Rows.fnSurdsCard.laidKinds true Rows.fnSurdsCard.stood.harness true
    over_FnSurds (fun _ h => by cases h) (by kernel_rfl) (fun _ h => by cases h) fnSurds_row_tie rfl ⟨rfl, rfl⟩ (by kernel_rfl) (by kernel_rfl)
    (fun f fn hf hfn => by
      obtain rfl : f = 6 := Option.some.inj ((show Tryd.prog.funcNamed Rows.fnSurdsRow.func = some 6 by kernel_rfl).symm.trans hf) |>.symm
      obtain rfl : fn = Tryd.f6 := (Option.some.inj (Tryd.func6.symm.trans hfn)).symm
      refine ⟨by kernel_rfl, fun j t ht => ?_⟩
      have hall : (Tryd.f6.params.toList.all fun u => !Tryd.prog.wantsStandIn u) = true := by kernel_rfl
      have hm : t ∈ Tryd.f6.params.toList := by
        rw [← Array.getElem?_toList] at ht
        exact List.mem_of_getElem? ht
      exact (show Tryd.prog.wantsStandIn t = false by simpa using List.all_eq_true.1 hall t hm))
    (by kernel_rfl)
#print axioms holds_FnSurds
end Go.Proofs.YtibbokllongomaaDoor
