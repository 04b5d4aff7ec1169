/-
  The texts of surds and pairs, both packages.
-/
import Derived.Test.YtibbokllongomaaDoorDec
import Derived.Test.YtibbokllongomaaDoorSurd
import Derived.Test.YtibbokllongomaaDoorPell
namespace Go.Proofs.YtibbokllongomaaDoor
open Go.RowKit

theorem decB_size (n : Int) (h0 : -9223372036854775808 ≤ n) (h1 : n ≤ 9223372036854775807) : (decB n).size ≤ 21 := by
  show (Lib.itoa n).toArray.size ≤ 21
  rw [List.size_toArray]
  exact Lib.itoa_length_le n h0 h1
/-- A decimal text with what the walk uses of it. -/
theorem decB_some (n : Int) (h0 : -9223372036854775808 ≤ n) (h1 : n ≤ 9223372036854775807) : ∃ D : ByteArray, decB n = D ∧ D.size ≤ 21 := ⟨_, rfl, decB_size n h0 h1⟩
def sdT (p d q : Int) : ByteArray := ⟨#[40]⟩ ++ decB p ++ ⟨#[43, 114]⟩ ++ decB d ++ ⟨#[41, 47]⟩ ++ decB q
def sdM (p d q : Int) : ByteArray := if okS p d q then sdT p d q else ⟨#[]⟩
set_option maxHeartbeats 1000000 in
theorem surdTextI_any (p d q : Int) (w : World) (ht : Tb w) : Calls Tryd.prog 32 #[.agg #[.int .i64 p, .int .i64 d, .int .i64 q]] w (Ret w (.string (sdM p d q))) := by
  cases h : okS p d q
  · have e : sdM p d q = ⟨#[]⟩ := by unfold sdM; rw [h]; rfl
    rw [e]; clear e
    go_enter Tryd.func32, Tryd.ntmps32
    go_wp2_with fail
    apply Calls.mono
    · with_reducible exact validSurd_any _ _ _ false h _
    rintro _ w1 ⟨rfl, hb_w1⟩
    obtain ⟨hc_w1, hf_w1, hs_w1⟩ := bcell hb_w1
    try simp at hs_w1
    have hz_w1_w0 : w.heap.size < w1.heap.size := by omega
    have hy_w1_w0 : w.heap.size ≤ w1.heap.size := by omega
    have hx_w1_w0 : ∀ n : Nat, w.heap.size < w1.heap.size + n := by intro n; omega
    have hv_w1_w0 : ∀ n : Nat, w.heap.size ≤ w1.heap.size + n := by intro n; omega
    go_wp2
    go_ret
    refine ⟨by first | rfl | (simp), ?_⟩
    repeat' (first | (with_reducible exact Below.refl _ _) | (with_reducible assumption) | (with_reducible refine Below.alloc ?_ ?_ _) | (with_reducible refine Below.drew ?_) | (with_reducible refine bdrewN ?_ _) | (with_reducible refine Below.setCell ?_ ?_ _) | (with_reducible refine bthen ?_ (by assumption) ?_) | go_size)
  · have e : sdM p d q = sdT p d q := by unfold sdM; rw [if_pos h]
    rw [e]; clear e
    obtain ⟨b1, b2, b3, b4, b5, b6, _⟩ := okS_bd h
    have kP := fun w h => decimal_any p (by omega) (by omega) w h
    have kD := fun w h => decimal_any d (by omega) (by omega) w h
    have kQ := fun w h => decimal_any q (by omega) (by omega) w h
    unfold sdT
    obtain ⟨P, eP, sP⟩ := decB_some p (by omega) (by omega)
    obtain ⟨D, eD, sD⟩ := decB_some d (by omega) (by omega)
    obtain ⟨Q, eQ, sQ⟩ := decB_some q (by omega) (by omega)
    rw [eP] at kP ⊢
    rw [eD] at kD ⊢
    rw [eQ] at kQ ⊢
    have H := Lib.hid h
    clear h eP eD eQ
    go_enter Tryd.func32, Tryd.ntmps32
    go_wp2_with fail
    apply Calls.mono
    · with_reducible exact validSurd_any _ _ _ true H.out _
    rintro _ w1 ⟨rfl, hb_w1⟩
    obtain ⟨hc_w1, hf_w1, hs_w1⟩ := bcell hb_w1
    try simp at hs_w1
    have hz_w1_w0 : w.heap.size < w1.heap.size := by omega
    have hy_w1_w0 : w.heap.size ≤ w1.heap.size := by omega
    have hx_w1_w0 : ∀ n : Nat, w.heap.size < w1.heap.size + n := by intro n; omega
    have hv_w1_w0 : ∀ n : Nat, w.heap.size ≤ w1.heap.size + n := by intro n; omega
    have ht1 := ((ht.alloc _).below hb_w1)
    go_wp2_with fail
    refine wp_region_calm (by kernel_rfl) (by kernel_rfl) ?_
    repeat (go_big_quiet_step ((first | with_reducible exact calm (kP _ (Tb.later ht1 _)) | with_reducible exact calm (kD _ (Tb.later ht1 _)) | with_reducible exact calm (kQ _ (Tb.later ht1 _)))))
    refine wpQuiet_nil ?_
    intro w2 hb_w2
    obtain ⟨hc_w2, hf_w2, hs_w2⟩ := bcell hb_w2
    try simp at hs_w2
    have hz_w2_w0 : w.heap.size < w2.heap.size := by omega
    have hy_w2_w0 : w.heap.size ≤ w2.heap.size := by omega
    have hx_w2_w0 : ∀ n : Nat, w.heap.size < w2.heap.size + n := by intro n; omega
    have hv_w2_w0 : ∀ n : Nat, w.heap.size ≤ w2.heap.size + n := by intro n; omega
    go_wp2
    go_ret
    refine ⟨by first | rfl | (simp), ?_⟩
    repeat' (first | (with_reducible exact Below.refl _ _) | (with_reducible assumption) | (with_reducible refine Below.alloc ?_ ?_ _) | (with_reducible refine Below.drew ?_) | (with_reducible refine bdrewN ?_ _) | (with_reducible refine Below.setCell ?_ ?_ _) | (with_reducible refine bthen ?_ (by assumption) ?_) | go_size)
def prT (d x y v : Int) : ByteArray := decB x ++ ⟨#[94, 50, 32, 45, 32]⟩ ++ decB d ++ ⟨#[32, 42, 32]⟩ ++ decB y ++ ⟨#[94, 50, 32, 61, 32]⟩ ++ decB v
def prtM (d x y : Int) : ByteArray := if pcM d x y = 0 then prT d x y (nmV d x y) else ⟨#[]⟩
set_option maxHeartbeats 1000000 in
theorem pairTextI_any (d x y : Int) (w : World) (ht : Tb w) : Calls Tryd.prog 20 #[.int .i64 d, .agg #[.int .i64 x, .int .i64 y]] w (Ret w (.string (prtM d x y))) := by
  have kN := fun w => normOfI_any d x y w
  by_cases h : pcM d x y = 0
  · obtain ⟨⟨d1, d2⟩, _, hok⟩ := pc_zero h
    obtain ⟨⟨x1, x2⟩, ⟨y1, y2⟩, ⟨n1, n2⟩, _, n3, n4⟩ := okP_bd d1 d2 hok
    have e : nmM d x y = (nmV d x y, 0) := by simp [nmM, h]
    rw [e] at kN; clear e
    have e : prtM d x y = prT d x y (nmV d x y) := by unfold prtM; rw [if_pos h]
    rw [e]; clear e
    have v1 : -1000000000000000000 ≤ nmV d x y ∧ nmV d x y ≤ 1000000000000000000 := by unfold nmV; omega
    generalize nmV d x y = v at *
    have kX := fun w h => decimal_any x (by omega) (by omega) w h
    have kD := fun w h => decimal_any d (by omega) (by omega) w h
    have kY := fun w h => decimal_any y (by omega) (by omega) w h
    have kV := fun w h => decimal_any v (by omega) (by omega) w h
    unfold prT
    obtain ⟨X, eX, sX⟩ := decB_some x (by omega) (by omega)
    obtain ⟨D, eD, sD⟩ := decB_some d (by omega) (by omega)
    obtain ⟨Y, eY, sY⟩ := decB_some y (by omega) (by omega)
    obtain ⟨V, eV, sV⟩ := decB_some v (by omega) (by omega)
    rw [eX] at kX ⊢
    rw [eD] at kD ⊢
    rw [eY] at kY ⊢
    rw [eV] at kV ⊢
    clear h hok eX eD eY eV
    go_enter Tryd.func20, Tryd.ntmps20
    go_wp2_with fail
    apply Calls.mono
    · with_reducible exact kN _
    rintro _ w1 ⟨rfl, hb_w1⟩
    obtain ⟨hc_w1, hf_w1, hs_w1⟩ := bcell hb_w1
    try simp at hs_w1
    have hz_w1_w0 : w.heap.size < w1.heap.size := by omega
    have hy_w1_w0 : w.heap.size ≤ w1.heap.size := by omega
    have hx_w1_w0 : ∀ n : Nat, w.heap.size < w1.heap.size + n := by intro n; omega
    have hv_w1_w0 : ∀ n : Nat, w.heap.size ≤ w1.heap.size + n := by intro n; omega
    have ht1 := ((ht.alloc _).below hb_w1)
    go_wp2_with fail
    refine wp_region_calm (by kernel_rfl) (by kernel_rfl) ?_
    repeat (go_big_quiet_step ((first | with_reducible exact calm (kX _ (Tb.later ht1 _)) | with_reducible exact calm (kD _ (Tb.later ht1 _)) | with_reducible exact calm (kY _ (Tb.later ht1 _)) | with_reducible exact calm (kV _ (Tb.later ht1 _)))))
    refine wpQuiet_nil ?_
    intro w2 hb_w2
    obtain ⟨hc_w2, hf_w2, hs_w2⟩ := bcell hb_w2
    try simp at hs_w2
    have hz_w2_w0 : w.heap.size < w2.heap.size := by omega
    have hy_w2_w0 : w.heap.size ≤ w2.heap.size := by omega
    have hx_w2_w0 : ∀ n : Nat, w.heap.size < w2.heap.size + n := by intro n; omega
    have hv_w2_w0 : ∀ n : Nat, w.heap.size ≤ w2.heap.size + n := by intro n; omega
    go_wp2
    go_ret
    refine ⟨by first | rfl | (simp), ?_⟩
    repeat' (first | (with_reducible exact Below.refl _ _) | (with_reducible assumption) | (with_reducible refine Below.alloc ?_ ?_ _) | (with_reducible refine Below.drew ?_) | (with_reducible refine bdrewN ?_ _) | (with_reducible refine Below.setCell ?_ ?_ _) | (with_reducible refine bthen ?_ (by assumption) ?_) | go_size)
  · have e : nmM d x y = (0, pcM d x y) := by simp [nmM, h]
    rw [e] at kN; clear e
    have e : prtM d x y = ⟨#[]⟩ := by unfold prtM; rw [if_neg h]
    rw [e]; clear e
    have hne : (pcM d x y != 0) = true := by simp [h]
    generalize pcM d x y = c at *
    clear h
    go_enter Tryd.func20, Tryd.ntmps20
    go_wp2_with fail
    apply Calls.mono
    · with_reducible exact kN _
    rintro _ w1 ⟨rfl, hb_w1⟩
    obtain ⟨hc_w1, hf_w1, hs_w1⟩ := bcell hb_w1
    try simp at hs_w1
    have hz_w1_w0 : w.heap.size < w1.heap.size := by omega
    have hy_w1_w0 : w.heap.size ≤ w1.heap.size := by omega
    have hx_w1_w0 : ∀ n : Nat, w.heap.size < w1.heap.size + n := by intro n; omega
    have hv_w1_w0 : ∀ n : Nat, w.heap.size ≤ w1.heap.size + n := by intro n; omega
    go_wp2
    go_ret
    refine ⟨by first | rfl | (simp), ?_⟩
    repeat' (first | (with_reducible exact Below.refl _ _) | (with_reducible assumption) | (with_reducible refine Below.alloc ?_ ?_ _) | (with_reducible refine Below.drew ?_) | (with_reducible refine bdrewN ?_ _) | (with_reducible refine Below.setCell ?_ ?_ _) | (with_reducible refine bthen ?_ (by assumption) ?_) | go_size)
end Go.Proofs.YtibbokllongomaaDoor
