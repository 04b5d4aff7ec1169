/-
  For all bytes the law FnNorms answers true: products of pairs commute, norms are multiplicative, a text is not empty, the hardest equation's solution is its least one. Conditions: the library's tables hold what its text lays in them (the card ties this to the text).
-/
import Derived.Test.YtibbokllongomaaDoorNrm
import Derived.Test.YtibbokllongomaaDoorPi
import Derived.Test.YtibbokllongomaaDoorText
import Derived.Test.YtibbokllongomaaDoorCard
import Derived.Test.YtibbokllongomaaDoorDraw2
namespace Go.Proofs.YtibbokllongomaaDoor
open Go.ChangeShapes Go.WideShapes Go.ChangeAt Go.RowKit Go.Joins
open Go.ChangeMaps (open_string shut_string)
set_option linter.unusedVariables false

theorem nm_little {d x y : Int} (h1 : 2 ≤ d) (h2 : d ≤ 702) (x1 : -100 ≤ x) (x2 : x ≤ 100) (y1 : -30 ≤ y) (y2 : y ≤ 30) : -1000000 ≤ nmV d x y ∧ nmV d x y ≤ 1000000 := by
  obtain ⟨a1, a2⟩ := mulk x1 x2 x1 x2
  obtain ⟨a3, a4⟩ := mulk (A := 702) (B := 30) (show -702 ≤ d by omega) (by omega) y1 y2
  obtain ⟨a5, a6⟩ := mulk (a := d * y) (b := y) (A := 21060) (B := 30) (by omega) (by omega) y1 y2
  unfold nmV
  omega
theorem hp_first {n : Int} (h1 : 2 ≤ n) (h2 : n ≤ 200) : 2 ≤ (hpM n).1 ∧ (hpM n).1 ≤ 200 := by
  have hi : inB n 2 200 = true := inB_iff.2 ⟨h1, h2⟩
  have e : (hpM n).1 = (hpF (n - 1).toNat).1 := by unfold hpM; rw [hi]; rfl
  obtain ⟨⟨a, b⟩, _⟩ := hp_least (n - 1).toNat (by omega)
  rw [e]
  omega
theorem ba_ne {T : ByteArray} (h : T ≠ ⟨#[]⟩) : T.toList.isEmpty = false := by
  cases e : T.toList.isEmpty
  · rfl
  · exfalso
    rw [List.isEmpty_iff, ByteArray.toList_eq] at e
    refine h ?_
    cases T with
    | mk d =>
      rw [Array.toList_eq_nil_iff] at e
      have e : d = #[] := e
      rw [e]
theorem prt_some {d x y : Int} (h : pcM d x y = 0) : ∃ T : ByteArray, prtM d x y = T ∧ T ≠ ⟨#[]⟩ := by
  refine ⟨_, rfl, ?_⟩
  unfold prtM prT
  rw [if_pos h]
  intro e
  have h2 := congrArg ByteArray.size e
  rw [ByteArray.size_append, ByteArray.size_append, ByteArray.size_append, ByteArray.size_append, ByteArray.size_append, ByteArray.size_append] at h2
  have e5 : (⟨#[94, 50, 32, 45, 32]⟩ : ByteArray).size = 5 := rfl
  have e0 : (⟨#[]⟩ : ByteArray).size = 0 := rfl
  omega
set_option maxHeartbeats 4000000 in
set_option maxRecDepth 100000 in
theorem walk_FnNorms (a : Option Addr) (n c : Nat) (zs : List Int) (a' : Option Addr) (n' c' : Nat) (zs' : List Int) (w : World) (ht : Tb w) (hr : IsRow .u8 w a n c zs) (hr' : IsRow .u8 w a' n' c' zs') :
    Calls Tryd.prog 4 #[.slice a n c, .slice a' n' c'] w (Ret w (.bool true)) := by
  by_cases hl : n ≤ 3000 ∧ n' ≤ 3000
  · have hrd := byteRd_of_row hr
    have hrd' := byteRd_of_row hr'
    have kL := fun w => a2Long_any a a' n n' c c' false (by simp [hl.1, hl.2]) w
    go_enter Tryd.func4, Tryd.ntmps4
    go_wp2_with fail
    apply Calls.mono
    · with_reducible exact kL _
    rintro _ w1 ⟨rfl, hb_w1⟩
    obtain ⟨hc_w1, hf_w1, hs_w1⟩ := bcell hb_w1
    try simp at hs_w1
    have hrd1 := hrd.below hb_w1
    have hrd1' := hrd'.below hb_w1
    have ht1 := ht.below hb_w1
    go_wp2_with fail
    apply Calls.mono
    · with_reducible exact a2D_any _ _ _ _ (by omega) hrd1
    rintro _ w2 ⟨d, rfl, ⟨hd1, hd2, hd3⟩, hb_w2⟩
    obtain ⟨hc_w2, hf_w2, hs_w2⟩ := bcell hb_w2
    try simp at hs_w2
    have hrd2 := hrd1'.below hb_w2
    have ht2 := ht1.below hb_w2
    go_wp2_with fail
    apply Calls.mono
    · with_reducible exact a2At_any _ _ _ _ _ _ hrd2 (by omega) (by omega)
    rintro _ w3 ⟨x0, rfl, ⟨xa, xb, -⟩, hb_w3⟩
    obtain ⟨hc_w3, hf_w3, hs_w3⟩ := bcell hb_w3
    try simp at hs_w3
    have hx := xb (by omega)
    have hrd3 := hrd2.below hb_w3
    have ht3 := ht2.below hb_w3
    go_wp2_with fail
    apply Calls.mono
    · with_reducible exact a2At_any _ _ _ _ _ _ hrd3 (by omega) (by omega)
    rintro _ w4 ⟨y0, rfl, ⟨ya, yb, -⟩, hb_w4⟩
    obtain ⟨hc_w4, hf_w4, hs_w4⟩ := bcell hb_w4
    try simp at hs_w4
    have hy := yb (by omega)
    have hrd4 := (hrd3.below hb_w4).below ((Below.refl _ _).alloc (Nat.le_refl _) (.cells #[.int .i64 (x0 - 100), .int .i64 (y0 - 30)] 40))
    go_wp2_with fail
    apply Calls.mono
    · with_reducible exact a2At_any _ _ _ _ _ _ hrd4 (by omega) (by omega)
    rintro _ w5 ⟨z0, rfl, ⟨za, zb, -⟩, hb_w5⟩
    obtain ⟨hc_w5, hf_w5, hs_w5⟩ := bcell hb_w5
    try simp at hs_w5
    have hz_w5_w40 : w4.heap.size < w5.heap.size := by omega
    have hy_w5_w40 : w4.heap.size ≤ w5.heap.size := by omega
    have hx_w5_w40 : ∀ n : Nat, w4.heap.size < w5.heap.size + n := by intro n; omega
    have hv_w5_w40 : ∀ n : Nat, w4.heap.size ≤ w5.heap.size + n := by intro n; omega
    have hz := zb (by omega)
    have hrd5 := hrd4.below hb_w5
    go_wp2_with fail
    apply Calls.mono
    · with_reducible exact a2At_any _ _ _ _ _ _ hrd5 (by omega) (by omega)
    rintro _ w6 ⟨t0, rfl, ⟨ta, tb, -⟩, hb_w6⟩
    obtain ⟨hc_w6, hf_w6, hs_w6⟩ := bcell hb_w6
    try simp at hs_w6
    have hz_w6_w40 : w4.heap.size < w6.heap.size := by omega
    have hy_w6_w40 : w4.heap.size ≤ w6.heap.size := by omega
    have hx_w6_w40 : ∀ n : Nat, w4.heap.size < w6.heap.size + n := by intro n; omega
    have hv_w6_w40 : ∀ n : Nat, w4.heap.size ≤ w6.heap.size + n := by intro n; omega
    have ht' := tb (by omega)
    clear xb yb zb tb hrd hrd' hrd1 hrd1' hrd2 hrd3 hrd4 kL
    obtain ⟨m1, m2, m3, m4⟩ := ml_little (d := d) (x := x0 - 100) (y := y0 - 30) (z := z0 - 100) (t := t0 - 30) hd1 hd2 hd3 (by omega) (by omega) (by omega) (by omega) (by omega) (by omega) (by omega) (by omega)
    obtain ⟨m5, -, -, -⟩ := ml_little (d := d) (x := z0 - 100) (y := t0 - 30) (z := x0 - 100) (t := y0 - 30) hd1 hd2 hd3 (by omega) (by omega) (by omega) (by omega) (by omega) (by omega) (by omega) (by omega)
    have kM1 := fun w => mulPairsI_any d (x0 - 100) (y0 - 30) (z0 - 100) (t0 - 30) w
    have kM2 := fun w => mulPairsI_any d (z0 - 100) (t0 - 30) (x0 - 100) (y0 - 30) w
    have kN1 := fun w => normOfI_any d (x0 - 100) (y0 - 30) w
    have kN2 := fun w => normOfI_any d (z0 - 100) (t0 - 30) w
    have kN3 := fun w => normOfI_any d (mxP d (x0 - 100) (y0 - 30) (z0 - 100) (t0 - 30)) (myP (x0 - 100) (y0 - 30) (z0 - 100) (t0 - 30)) w
    have kT := fun w h => pairTextI_any d (x0 - 100) (y0 - 30) w h
    rw [m2] at kM1
    rw [m3] at kM2
    rw [show nmM d (x0 - 100) (y0 - 30) = (nmV d (x0 - 100) (y0 - 30), 0) by simp [nmM, m1]] at kN1
    rw [show nmM d (z0 - 100) (t0 - 30) = (nmV d (z0 - 100) (t0 - 30), 0) by simp [nmM, m5]] at kN2
    rw [show nmM d (mxP d (x0 - 100) (y0 - 30) (z0 - 100) (t0 - 30)) (myP (x0 - 100) (y0 - 30) (z0 - 100) (t0 - 30)) = (nmV d (mxP d (x0 - 100) (y0 - 30) (z0 - 100) (t0 - 30)) (myP (x0 - 100) (y0 - 30) (z0 - 100) (t0 - 30)), 0) by simp [nmM, m4], norm_mul] at kN3
    obtain ⟨n1, n2⟩ := nm_little (d := d) (x := x0 - 100) (y := y0 - 30) hd1 hd2 (by omega) (by omega) (by omega) (by omega)
    obtain ⟨n3, n4⟩ := nm_little (d := d) (x := z0 - 100) (y := t0 - 30) hd1 hd2 (by omega) (by omega) (by omega) (by omega)
    obtain ⟨T, hT, hT2⟩ := prt_some m1
    rw [hT] at kT
    clear m1 m2 m3 m4 m5 hT
    generalize mxP d (x0 - 100) (y0 - 30) (z0 - 100) (t0 - 30) = X at *
    generalize myP (x0 - 100) (y0 - 30) (z0 - 100) (t0 - 30) = Y at *
    generalize nmV d (x0 - 100) (y0 - 30) = u at *
    generalize nmV d (z0 - 100) (t0 - 30) = v at *
    obtain ⟨n5, n6⟩ := mulk n1 n2 n3 n4
    have kNe := run_neP X Y X Y false (by simp)
    have kGd := run_guardP .neq
    go_wp2_with fail
    apply Calls.mono
    · with_reducible exact kM1 _
    rintro _ w7 ⟨rfl, hb_w7⟩
    obtain ⟨hc_w7, hf_w7, hs_w7⟩ := bcell hb_w7
    try simp at hs_w7
    have hz_w7_w40 : w4.heap.size < w7.heap.size := by omega
    have hy_w7_w40 : w4.heap.size ≤ w7.heap.size := by omega
    have hx_w7_w40 : ∀ n : Nat, w4.heap.size < w7.heap.size + n := by intro n; omega
    have hv_w7_w40 : ∀ n : Nat, w4.heap.size ≤ w7.heap.size + n := by intro n; omega
    have hz_w7_w60 : w6.heap.size < w7.heap.size := by omega
    have hy_w7_w60 : w6.heap.size ≤ w7.heap.size := by omega
    have hx_w7_w60 : ∀ n : Nat, w6.heap.size < w7.heap.size + n := by intro n; omega
    have hv_w7_w60 : ∀ n : Nat, w6.heap.size ≤ w7.heap.size + n := by intro n; omega
    go_wp2_with fail
    apply Calls.mono
    · with_reducible exact kM2 _
    rintro _ w8 ⟨rfl, hb_w8⟩
    obtain ⟨hc_w8, hf_w8, hs_w8⟩ := bcell hb_w8
    try simp at hs_w8
    have hz_w8_w40 : w4.heap.size < w8.heap.size := by omega
    have hy_w8_w40 : w4.heap.size ≤ w8.heap.size := by omega
    have hx_w8_w40 : ∀ n : Nat, w4.heap.size < w8.heap.size + n := by intro n; omega
    have hv_w8_w40 : ∀ n : Nat, w4.heap.size ≤ w8.heap.size + n := by intro n; omega
    have hz_w8_w60 : w6.heap.size < w8.heap.size := by omega
    have hy_w8_w60 : w6.heap.size ≤ w8.heap.size := by omega
    have hx_w8_w60 : ∀ n : Nat, w6.heap.size < w8.heap.size + n := by intro n; omega
    have hv_w8_w60 : ∀ n : Nat, w6.heap.size ≤ w8.heap.size + n := by intro n; omega
    have hz_w8_w70 : w7.heap.size < w8.heap.size := by omega
    have hy_w8_w70 : w7.heap.size ≤ w8.heap.size := by omega
    have hx_w8_w70 : ∀ n : Nat, w7.heap.size < w8.heap.size + n := by intro n; omega
    have hv_w8_w70 : ∀ n : Nat, w7.heap.size ≤ w8.heap.size + n := by intro n; omega
    go_wp2_with fail
    apply Calls.mono
    · with_reducible exact kN1 _
    rintro _ w9 ⟨rfl, hb_w9⟩
    obtain ⟨hc_w9, hf_w9, hs_w9⟩ := bcell hb_w9
    try simp at hs_w9
    have hz_w9_w40 : w4.heap.size < w9.heap.size := by omega
    have hy_w9_w40 : w4.heap.size ≤ w9.heap.size := by omega
    have hx_w9_w40 : ∀ n : Nat, w4.heap.size < w9.heap.size + n := by intro n; omega
    have hv_w9_w40 : ∀ n : Nat, w4.heap.size ≤ w9.heap.size + n := by intro n; omega
    have hz_w9_w60 : w6.heap.size < w9.heap.size := by omega
    have hy_w9_w60 : w6.heap.size ≤ w9.heap.size := by omega
    have hx_w9_w60 : ∀ n : Nat, w6.heap.size < w9.heap.size + n := by intro n; omega
    have hv_w9_w60 : ∀ n : Nat, w6.heap.size ≤ w9.heap.size + n := by intro n; omega
    have hz_w9_w70 : w7.heap.size < w9.heap.size := by omega
    have hy_w9_w70 : w7.heap.size ≤ w9.heap.size := by omega
    have hx_w9_w70 : ∀ n : Nat, w7.heap.size < w9.heap.size + n := by intro n; omega
    have hv_w9_w70 : ∀ n : Nat, w7.heap.size ≤ w9.heap.size + n := by intro n; omega
    have hz_w9_w80 : w8.heap.size < w9.heap.size := by omega
    have hy_w9_w80 : w8.heap.size ≤ w9.heap.size := by omega
    have hx_w9_w80 : ∀ n : Nat, w8.heap.size < w9.heap.size + n := by intro n; omega
    have hv_w9_w80 : ∀ n : Nat, w8.heap.size ≤ w9.heap.size + n := by intro n; omega
    go_wp2_with fail
    apply Calls.mono
    · with_reducible exact kN2 _
    rintro _ w10 ⟨rfl, hb_w10⟩
    obtain ⟨hc_w10, hf_w10, hs_w10⟩ := bcell hb_w10
    try simp at hs_w10
    have hz_w10_w40 : w4.heap.size < w10.heap.size := by omega
    have hy_w10_w40 : w4.heap.size ≤ w10.heap.size := by omega
    have hx_w10_w40 : ∀ n : Nat, w4.heap.size < w10.heap.size + n := by intro n; omega
    have hv_w10_w40 : ∀ n : Nat, w4.heap.size ≤ w10.heap.size + n := by intro n; omega
    have hz_w10_w60 : w6.heap.size < w10.heap.size := by omega
    have hy_w10_w60 : w6.heap.size ≤ w10.heap.size := by omega
    have hx_w10_w60 : ∀ n : Nat, w6.heap.size < w10.heap.size + n := by intro n; omega
    have hv_w10_w60 : ∀ n : Nat, w6.heap.size ≤ w10.heap.size + n := by intro n; omega
    have hz_w10_w70 : w7.heap.size < w10.heap.size := by omega
    have hy_w10_w70 : w7.heap.size ≤ w10.heap.size := by omega
    have hx_w10_w70 : ∀ n : Nat, w7.heap.size < w10.heap.size + n := by intro n; omega
    have hv_w10_w70 : ∀ n : Nat, w7.heap.size ≤ w10.heap.size + n := by intro n; omega
    have hz_w10_w80 : w8.heap.size < w10.heap.size := by omega
    have hy_w10_w80 : w8.heap.size ≤ w10.heap.size := by omega
    have hx_w10_w80 : ∀ n : Nat, w8.heap.size < w10.heap.size + n := by intro n; omega
    have hv_w10_w80 : ∀ n : Nat, w8.heap.size ≤ w10.heap.size + n := by intro n; omega
    go_wp2_with fail
    apply Calls.mono
    · with_reducible exact kN3 _
    rintro _ w11 ⟨rfl, hb_w11⟩
    obtain ⟨hc_w11, hf_w11, hs_w11⟩ := bcell hb_w11
    try simp at hs_w11
    have hz_w11_w40 : w4.heap.size < w11.heap.size := by omega
    have hy_w11_w40 : w4.heap.size ≤ w11.heap.size := by omega
    have hx_w11_w40 : ∀ n : Nat, w4.heap.size < w11.heap.size + n := by intro n; omega
    have hv_w11_w40 : ∀ n : Nat, w4.heap.size ≤ w11.heap.size + n := by intro n; omega
    have hz_w11_w60 : w6.heap.size < w11.heap.size := by omega
    have hy_w11_w60 : w6.heap.size ≤ w11.heap.size := by omega
    have hx_w11_w60 : ∀ n : Nat, w6.heap.size < w11.heap.size + n := by intro n; omega
    have hv_w11_w60 : ∀ n : Nat, w6.heap.size ≤ w11.heap.size + n := by intro n; omega
    have hz_w11_w70 : w7.heap.size < w11.heap.size := by omega
    have hy_w11_w70 : w7.heap.size ≤ w11.heap.size := by omega
    have hx_w11_w70 : ∀ n : Nat, w7.heap.size < w11.heap.size + n := by intro n; omega
    have hv_w11_w70 : ∀ n : Nat, w7.heap.size ≤ w11.heap.size + n := by intro n; omega
    have hz_w11_w80 : w8.heap.size < w11.heap.size := by omega
    have hy_w11_w80 : w8.heap.size ≤ w11.heap.size := by omega
    have hx_w11_w80 : ∀ n : Nat, w8.heap.size < w11.heap.size + n := by intro n; omega
    have hv_w11_w80 : ∀ n : Nat, w8.heap.size ≤ w11.heap.size + n := by intro n; omega
    have bel11 : Below w6.heap.size w6 w11 := by repeat' (first | (with_reducible exact Below.refl _ _) | (with_reducible assumption) | (with_reducible refine Below.alloc ?_ ?_ _) | (with_reducible refine Below.drew ?_) | (with_reducible refine bdrewN ?_ _) | (with_reducible refine Below.setCell ?_ ?_ _) | (with_reducible refine bthen ?_ (by assumption) ?_) | go_size)
    have hrd11 := (hrd5.below hb_w6).below bel11
    go_wp2_with fail
    apply Calls.mono
    · with_reducible exact a2At_any _ _ _ _ _ _ hrd11 (by omega) (by omega)
    rintro _ w12 ⟨h0, rfl, ⟨ha, hb, -⟩, hb_w12⟩
    obtain ⟨hc_w12, hf_w12, hs_w12⟩ := bcell hb_w12
    try simp at hs_w12
    have hz_w12_w40 : w4.heap.size < w12.heap.size := by omega
    have hy_w12_w40 : w4.heap.size ≤ w12.heap.size := by omega
    have hx_w12_w40 : ∀ n : Nat, w4.heap.size < w12.heap.size + n := by intro n; omega
    have hv_w12_w40 : ∀ n : Nat, w4.heap.size ≤ w12.heap.size + n := by intro n; omega
    have hz_w12_w60 : w6.heap.size < w12.heap.size := by omega
    have hy_w12_w60 : w6.heap.size ≤ w12.heap.size := by omega
    have hx_w12_w60 : ∀ n : Nat, w6.heap.size < w12.heap.size + n := by intro n; omega
    have hv_w12_w60 : ∀ n : Nat, w6.heap.size ≤ w12.heap.size + n := by intro n; omega
    have hz_w12_w70 : w7.heap.size < w12.heap.size := by omega
    have hy_w12_w70 : w7.heap.size ≤ w12.heap.size := by omega
    have hx_w12_w70 : ∀ n : Nat, w7.heap.size < w12.heap.size + n := by intro n; omega
    have hv_w12_w70 : ∀ n : Nat, w7.heap.size ≤ w12.heap.size + n := by intro n; omega
    have hz_w12_w80 : w8.heap.size < w12.heap.size := by omega
    have hy_w12_w80 : w8.heap.size ≤ w12.heap.size := by omega
    have hx_w12_w80 : ∀ n : Nat, w8.heap.size < w12.heap.size + n := by intro n; omega
    have hv_w12_w80 : ∀ n : Nat, w8.heap.size ≤ w12.heap.size + n := by intro n; omega
    have hh := hb (by omega)
    obtain ⟨e1, e2⟩ := hp_lp (n := 2 + h0) (by omega) (by omega)
    have kH := fun w => hardestI_any (2 + h0) w
    have kLp := fun w => leastPellS_any (hpM (2 + h0)).1 w
    rw [e2] at kLp
    rw [e1] at kH
    obtain ⟨gd1, gd2⟩ := hp_first (n := 2 + h0) (by omega) (by omega)
    clear e1 e2
    generalize (hpM (2 + h0)).1 = D at *
    generalize (hpM (2 + h0)).2.1.1 = P at *
    generalize (hpM (2 + h0)).2.1.2 = Q at *
    go_wp2_with fail
    apply Calls.mono
    · with_reducible exact kH _
    rintro _ w13 ⟨rfl, hb_w13⟩
    obtain ⟨hc_w13, hf_w13, hs_w13⟩ := bcell hb_w13
    try simp at hs_w13
    have hz_w13_w40 : w4.heap.size < w13.heap.size := by omega
    have hy_w13_w40 : w4.heap.size ≤ w13.heap.size := by omega
    have hx_w13_w40 : ∀ n : Nat, w4.heap.size < w13.heap.size + n := by intro n; omega
    have hv_w13_w40 : ∀ n : Nat, w4.heap.size ≤ w13.heap.size + n := by intro n; omega
    have hz_w13_w60 : w6.heap.size < w13.heap.size := by omega
    have hy_w13_w60 : w6.heap.size ≤ w13.heap.size := by omega
    have hx_w13_w60 : ∀ n : Nat, w6.heap.size < w13.heap.size + n := by intro n; omega
    have hv_w13_w60 : ∀ n : Nat, w6.heap.size ≤ w13.heap.size + n := by intro n; omega
    have hz_w13_w70 : w7.heap.size < w13.heap.size := by omega
    have hy_w13_w70 : w7.heap.size ≤ w13.heap.size := by omega
    have hx_w13_w70 : ∀ n : Nat, w7.heap.size < w13.heap.size + n := by intro n; omega
    have hv_w13_w70 : ∀ n : Nat, w7.heap.size ≤ w13.heap.size + n := by intro n; omega
    have hz_w13_w80 : w8.heap.size < w13.heap.size := by omega
    have hy_w13_w80 : w8.heap.size ≤ w13.heap.size := by omega
    have hx_w13_w80 : ∀ n : Nat, w8.heap.size < w13.heap.size + n := by intro n; omega
    have hv_w13_w80 : ∀ n : Nat, w8.heap.size ≤ w13.heap.size + n := by intro n; omega
    have ht13 : Tb w13 := by
      have b12 : Below w6.heap.size w6 w12 := bthen bel11 hb_w12 bel11.size
      have b13 : Below w6.heap.size w6 w13 := bthen b12 hb_w13 b12.size
      exact (((((ht3.below hb_w4).alloc _).below hb_w5).below hb_w6)).below b13
    have ht14 := ht13.alloc (.cells #[.int .i64 P, .int .i64 Q] 40)
    have kEq := run_eqP P Q P Q true (by simp)
    have kGq := run_guardP .eql
    have hT3 : T.toList.isEmpty = false := ba_ne hT2
    go_wp2_with fail
    apply Calls.mono
    · with_reducible exact kT _ ht14
    rintro _ w14 ⟨rfl, hb_w14⟩
    obtain ⟨hc_w14, hf_w14, hs_w14⟩ := bcell hb_w14
    try simp at hs_w14
    have hz_w14_w130 : w13.heap.size < w14.heap.size := by omega
    have hy_w14_w130 : w13.heap.size ≤ w14.heap.size := by omega
    have hx_w14_w130 : ∀ n : Nat, w13.heap.size < w14.heap.size + n := by intro n; omega
    have hv_w14_w130 : ∀ n : Nat, w13.heap.size ≤ w14.heap.size + n := by intro n; omega
    go_wp2_with fail
    apply Calls.mono
    · with_reducible exact kLp _
    rintro _ w15 ⟨rfl, hb_w15⟩
    obtain ⟨hc_w15, hf_w15, hs_w15⟩ := bcell hb_w15
    try simp at hs_w15
    have hz_w15_w130 : w13.heap.size < w15.heap.size := by omega
    have hy_w15_w130 : w13.heap.size ≤ w15.heap.size := by omega
    have hx_w15_w130 : ∀ n : Nat, w13.heap.size < w15.heap.size + n := by intro n; omega
    have hv_w15_w130 : ∀ n : Nat, w13.heap.size ≤ w15.heap.size + n := by intro n; omega
    go_wp2
    go_ret
    refine ⟨by first | rfl | (simp), ?_⟩
    repeat' (first | (with_reducible exact Below.refl _ _) | (with_reducible assumption) | (with_reducible refine Below.alloc ?_ ?_ _) | (with_reducible refine Below.drew ?_) | (with_reducible refine bdrewN ?_ _) | (with_reducible refine Below.setCell ?_ ?_ _) | (with_reducible refine bthen ?_ (by assumption) ?_) | go_size)
  · have kL := fun w => a2Long_any a a' n n' c c' true (by
      have : ¬ (n ≤ 3000 ∧ n' ≤ 3000) := hl
      by_cases h1 : n ≤ 3000 <;> by_cases h2 : n' ≤ 3000 <;> simp [h1, h2] <;> omega) w
    clear hr hr' hl
    go_enter Tryd.func4, Tryd.ntmps4
    go_wp2_with fail
    apply Calls.mono
    · with_reducible exact kL _
    rintro _ w1 ⟨rfl, hb_w1⟩
    obtain ⟨hc_w1, hf_w1, hs_w1⟩ := bcell hb_w1
    try simp at hs_w1
    go_wp2
    go_ret
    refine ⟨by first | rfl | (simp), ?_⟩
    repeat' (first | (with_reducible exact Below.refl _ _) | (with_reducible assumption) | (with_reducible refine Below.alloc ?_ ?_ _) | (with_reducible refine Below.drew ?_) | (with_reducible refine bdrewN ?_ _) | (with_reducible refine Below.setCell ?_ ?_ _) | (with_reducible refine bthen ?_ (by assumption) ?_) | go_size)
theorem door_FnNorms (os : Os) (args : Array Value) : laidMetH Tryd.prog Rows.fnNormsRow.laid ((World.doorLaid Tryd.prog 62 os).forCall (fun _ _ => 0) ⟨#[], args, []⟩).memory :=
  laidMetH_of_parts3 (fuel := 8) (laidMet_of_run' 8 (by kernel_rfl) (by kernel_rfl)) (by kernel_rfl) (by kernel_rfl)
set_option maxRecDepth 100000 in
theorem lifted_FnNorms (os : Os) (started : os.Started) (H : Type) (enc : TypeId × Value → H) :
    ReturnsInHanded {} Tryd.checked os 4 .any (fun w args => (Rows.fnNormsSpec.pre enc Tryd.prog Tryd.f4 [] false w args ∧ laidMetH Tryd.prog Rows.fnNormsRow.laid w) ∧ sizedMet enc Tryd.prog Tryd.f4 (OpenSpec.ofChange Rows.fnNormsSpec) false w args) (Rows.fnNormsSpec.post enc Tryd.prog Tryd.f4 false true false false) := by
  refine returnsInHanded_of_change_and (C := Tryd.checked) (X := fun w _ => laidMetH Tryd.prog Rows.fnNormsRow.laid w) (fun _ _ _ hh h => h.of_heap hh) own started (by kernel_rfl) Tryd.func4
    (ChangeSpec.witness_shaped (enc := enc) (C := Tryd.checked) (os := os) (X := fun w _ => laidMetH Tryd.prog Rows.fnNormsRow.laid w) false (World.doorLaid Tryd.prog 62 os) #[.slice none 0 0, .slice none 0 0] 8 rfl (World.shaped_of_RefB (by kernel_rfl) (by kernel_rfl)) (by kernel_rfl) (by kernel_rfl) (by kernel_rfl) (door_FnNorms os _)) ?_
  intro W base args ds gs before hval0 hW _ _ hL _
  have htb : Tb W := tb_of_laid hL (by kernel_rfl) (by kernel_rfl)
  have hval : ∀ (j : Nat) t v, Tryd.f4.params[j]? = some t → args[j]? = some v → Value.okWide Tryd.prog W .any base t v := hval0
  have hW' := hW
  obtain ⟨p, q, hA0, hV, rfl, hfz, hnd⟩ := hW
  have hA : DataW.TrodAll enc Tryd.prog W 0 (fun _ => true) true Tryd.f4.params.toList args.toList ds p := hA0
  rw [Tryd.params4] at hA hval
  obtain ⟨v0, vs0, d0, ds0, p0, q0, hargs, rfl, rfl, h0, r0⟩ := trodAll_cons hA
  obtain ⟨v1, vs1, d1, ds1, p1, q1, rfl, rfl, rfl, h1, r1⟩ := trodAll_cons r0
  obtain ⟨rfl, rfl, rfl⟩ := trodAll_nil r1
  obtain rfl : args = #[v0, v1] := by cases args; simp_all
  obtain ⟨rfl, rfl⟩ := trodVars_none hV
  have k0 := h0
  have lt0 : ∀ x ∈ p0, x.block < W.heap.size := by obtain ⟨m, hm⟩ := k0; exact DataW.trod_lt m _ _ _ hm
  obtain ⟨a0, len0, cap0, rfl⟩ := okWide_slice Tryd.underlying22 (hval 0 22 v0 rfl rfl)
  obtain ⟨z0, ir0⟩ : ∃ zs, IsRow .u8 W a0 len0 cap0 zs := by
    obtain ⟨fuel, hf⟩ := h0
    rcases open_ints Tryd.underlying22 Tryd.underlying5 (by kernel_rfl) hf with ⟨hcs, _⟩ | ⟨x, l, c, zs, hcs, _, hl, hm, hz, _, hcell, hwz⟩
    · simp [Value.cells] at hcs
      obtain ⟨rfl, rfl, rfl⟩ := hcs
      exact ⟨[], .inl ⟨rfl, rfl, rfl, rfl⟩⟩
    · simp [Value.cells] at hcs
      obtain ⟨rfl, rfl, rfl⟩ := hcs
      exact ⟨zs, .inr ⟨_, rfl, hl, hm, by simpa using hz, hcell, hwz⟩⟩
  have k1 := h1
  have lt1 : ∀ x ∈ p1, x.block < W.heap.size := by obtain ⟨m, hm⟩ := k1; exact DataW.trod_lt m _ _ _ hm
  obtain ⟨a1, len1, cap1, rfl⟩ := okWide_slice Tryd.underlying22 (hval 1 22 v1 rfl rfl)
  obtain ⟨z1, ir1⟩ : ∃ zs, IsRow .u8 W a1 len1 cap1 zs := by
    obtain ⟨fuel, hf⟩ := h1
    rcases open_ints Tryd.underlying22 Tryd.underlying5 (by kernel_rfl) hf with ⟨hcs, _⟩ | ⟨x, l, c, zs, hcs, _, hl, hm, hz, _, hcell, hwz⟩
    · simp [Value.cells] at hcs
      obtain ⟨rfl, rfl, rfl⟩ := hcs
      exact ⟨[], .inl ⟨rfl, rfl, rfl, rfl⟩⟩
    · simp [Value.cells] at hcs
      obtain ⟨rfl, rfl, rfl⟩ := hcs
      exact ⟨zs, .inr ⟨_, rfl, hl, hm, by simpa using hz, hcell, hwz⟩⟩
  clear hA0 hval0
  refine (walk_FnNorms a0 len0 cap0 z0 a1 len1 cap1 z1 W htb ir0 ir1).mono fun e W' ⟨he, bel⟩ => ?_
  subst he
  exact ⟨_, rfl, _, _, _, [], _, [], hW', trodAll_mk1 (shut_bool Tryd.underlying4 _), (trodAll_cons_mk (Below.trod laidOut (by kernel_rfl) (of_decide_eq_true (by kernel_rfl)) k0 bel lt0) (trodAll_cons_mk (Below.trod laidOut (by kernel_rfl) (of_decide_eq_true (by kernel_rfl)) k1 bel lt1) trodAll_mk0)), rfl, bel.frame _, fun h => by cases h⟩
theorem over_FnNorms : Rows.fnNormsRow.holds Tryd.pinned (OpenSpec.ofChange Rows.fnNormsSpec) :=
  OpenClaim.holds_of_wide 4 Tryd.f4 rfl rfl rfl rfl rfl rfl rfl ⟨rfl, rfl, rfl, rfl, rfl⟩ rfl rfl rfl rfl rfl (by kernel_rfl) Tryd.func4 (by kernel_rfl)
    (of_decide_eq_true (by kernel_rfl)) (by unfold Func.isWrapper; first | (rw [if_pos (by decide +kernel)]; kernel_rfl) | (rw [if_neg (by decide +kernel)]; exact ⟨rfl, rfl⟩))
    (fun os started H enc _ => lifted_FnNorms os started H enc)
/-- The tied card. -/
theorem holds_FnNorms : Rows.FnNormsCardSaid :=
  Claim7.holds_tied_plain_at .later [] Rows.fnNormsCard.laidKinds true Rows.fnNormsCard.stood.harness true
    over_FnNorms (fun _ h => by cases h) (by kernel_rfl) (fun _ h => by cases h) fnNorms_row_tie rfl ⟨rfl, rfl⟩ (by kernel_rfl) (by kernel_rfl)
    (fun f fn hf hfn => by
      obtain rfl : f = 4 := Option.some.inj ((show Tryd.prog.funcNamed Rows.fnNormsRow.func = some 4 by kernel_rfl).symm.trans hf) |>.symm
      obtain rfl : fn = Tryd.f4 := (Option.some.inj (Tryd.func4.symm.trans hfn)).symm
      refine ⟨by kernel_rfl, fun j t ht => ?_⟩
      have hall : (Tryd.f4.params.toList.all fun u => !Tryd.prog.wantsStandIn u) = true := by kernel_rfl
      have hm : t ∈ Tryd.f4.params.toList := by
        rw [← Array.getElem?_toList] at ht
        exact List.mem_of_getElem? ht
      exact (show Tryd.prog.wantsStandIn t = false by simpa using List.all_eq_true.1 hall t hm))
    (by kernel_rfl)
#print axioms holds_FnNorms

end Go.Proofs.YtibbokllongomaaDoor
