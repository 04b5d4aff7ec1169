/-
  The texts of fractions, and the lines of Farey sequences, as plain functions.
-/
import Derived.Test.YtlmmpeeacjbobaaDoorStr
import Derived.Test.YtlmmpeeacjbobaaDoorFarey2
import Derived.Test.YtlmmpeeacjbobaaDoorPx
namespace Go.Proofs.YtlmmpeeacjbobaaDoor
open Go.RowKit

def ftB (n d : Int) : ByteArray := if d = 1 then decB n else decB n ++ ⟨#[47]⟩ ++ decB d
set_option maxHeartbeats 1000000 in
theorem fracTextI_any (n d : Int) (h : okF n d = true) (w : World) (ht : Tb w) : Calls Tryd.prog 49 #[.agg #[.int .i64 n, .int .i64 d]] w (Ret w (.string (ftB n d))) := by
  obtain ⟨b1, b2, b3, b4⟩ := okF_bd h
  have kP := fun w h => decimal_any n (by omega) (by omega) w h
  have kD := fun w h => decimal_any d (by omega) (by omega) w h
  obtain ⟨P, eP, sP⟩ : ∃ D : ByteArray, decB n = D ∧ D.size ≤ 21 := ⟨_, rfl, decB_sz n (by omega) (by omega)⟩
  obtain ⟨D, eD, sD⟩ : ∃ D' : ByteArray, decB d = D' ∧ D'.size ≤ 21 := ⟨_, rfl, decB_sz d (by omega) (by omega)⟩
  have H := Lib.hid h
  by_cases hd : d = 1
  · have e : ftB n d = P := by unfold ftB; rw [if_pos hd, eP]
    rw [e]
    rw [eP] at kP
    clear h e eP eD kD
    subst hd
    go_enter Tryd.func49, Tryd.ntmps49
    go_wp2_with fail
    apply Calls.mono
    · with_reducible exact validFraction_any _ _ true H.out _
    rintro _ w1 ⟨rfl, hb_w1⟩
    obtain ⟨hc_w1, hf_w1, hs_w1⟩ := bcell hb_w1
    try simp at hs_w1
    have hz_w1_w0 : w.heap.size < w1.heap.size := by omega
    have hy_w1_w0 : w.heap.size ≤ w1.heap.size := by omega
    have hx_w1_w0 : ∀ n : Nat, w.heap.size < w1.heap.size + n := by intro n; omega
    have hv_w1_w0 : ∀ n : Nat, w.heap.size ≤ w1.heap.size + n := by intro n; omega
    have ht1 := ((ht.alloc (.cells #[.int .i64 n, .int .i64 1] 43)).below hb_w1)
    go_wp2_with fail
    apply Calls.mono
    · with_reducible exact kP _ ht1
    rintro _ w2 ⟨rfl, hb_w2⟩
    obtain ⟨hc_w2, hf_w2, hs_w2⟩ := bcell hb_w2
    try simp at hs_w2
    have hz_w2_w0 : w.heap.size < w2.heap.size := by omega
    have hy_w2_w0 : w.heap.size ≤ w2.heap.size := by omega
    have hx_w2_w0 : ∀ n : Nat, w.heap.size < w2.heap.size + n := by intro n; omega
    have hv_w2_w0 : ∀ n : Nat, w.heap.size ≤ w2.heap.size + n := by intro n; omega
    go_wp2
    go_ret
    refine ⟨by first | rfl | (simp), ?_⟩
    repeat' (first | (with_reducible exact Below.refl _ _) | (with_reducible assumption) | (with_reducible refine Below.alloc ?_ ?_ _) | (with_reducible refine Below.drew ?_) | (with_reducible refine bdrewN ?_ _) | (with_reducible refine Below.setCell ?_ ?_ _) | (with_reducible refine bthen ?_ (by assumption) ?_) | go_size)
  · have e : ftB n d = P ++ ⟨#[47]⟩ ++ D := by unfold ftB; rw [if_neg hd, eP, eD]
    rw [e]
    rw [eP] at kP
    rw [eD] at kD
    have hd' : ¬ (d = 1) := hd
    clear h e eP eD hd
    go_enter Tryd.func49, Tryd.ntmps49
    go_wp2_with fail
    apply Calls.mono
    · with_reducible exact validFraction_any _ _ true H.out _
    rintro _ w1 ⟨rfl, hb_w1⟩
    obtain ⟨hc_w1, hf_w1, hs_w1⟩ := bcell hb_w1
    try simp at hs_w1
    have hz_w1_w0 : w.heap.size < w1.heap.size := by omega
    have hy_w1_w0 : w.heap.size ≤ w1.heap.size := by omega
    have hx_w1_w0 : ∀ n : Nat, w.heap.size < w1.heap.size + n := by intro n; omega
    have hv_w1_w0 : ∀ n : Nat, w.heap.size ≤ w1.heap.size + n := by intro n; omega
    have ht1 := ((ht.alloc (.cells #[.int .i64 n, .int .i64 d] 43)).below hb_w1)
    go_wp2_with fail
    refine wp_region_calm (by kernel_rfl) (by kernel_rfl) ?_
    repeat (go_big_quiet_step ((first | with_reducible exact calm (kP _ (Tb.later ht1 _)) | with_reducible exact calm (kD _ (Tb.later ht1 _)))))
    refine wpQuiet_nil ?_
    intro w2 hb_w2
    obtain ⟨hc_w2, hf_w2, hs_w2⟩ := bcell hb_w2
    try simp at hs_w2
    have hz_w2_w0 : w.heap.size < w2.heap.size := by omega
    have hy_w2_w0 : w.heap.size ≤ w2.heap.size := by omega
    have hx_w2_w0 : ∀ n : Nat, w.heap.size < w2.heap.size + n := by intro n; omega
    have hv_w2_w0 : ∀ n : Nat, w.heap.size ≤ w2.heap.size + n := by intro n; omega
    go_wp2
    go_ret
    refine ⟨by first | rfl | (simp), ?_⟩
    repeat' (first | (with_reducible exact Below.refl _ _) | (with_reducible assumption) | (with_reducible refine Below.alloc ?_ ?_ _) | (with_reducible refine Below.drew ?_) | (with_reducible refine bdrewN ?_ _) | (with_reducible refine Below.setCell ?_ ?_ _) | (with_reducible refine bthen ?_ (by assumption) ?_) | go_size)
set_option maxHeartbeats 1000000 in
theorem l02Text_any (n d : Int) (h : okF n d = true) (w : World) : Calls Tryd.prog 46 #[.agg #[.int .i64 n, .int .i64 d]] w (Ret w (.string (ftB n d))) := by
  obtain ⟨b1, b2, b3, b4⟩ := okF_bd h
  have kP := fun w => l01Dec_any n (by omega) (by omega) w
  have kD := fun w => l01Dec_any d (by omega) (by omega) w
  obtain ⟨P, eP, sP⟩ : ∃ D : ByteArray, decB n = D ∧ D.size ≤ 21 := ⟨_, rfl, decB_sz n (by omega) (by omega)⟩
  obtain ⟨D, eD, sD⟩ : ∃ D' : ByteArray, decB d = D' ∧ D'.size ≤ 21 := ⟨_, rfl, decB_sz d (by omega) (by omega)⟩
  by_cases hd : d = 1
  · have e : ftB n d = P := by unfold ftB; rw [if_pos hd, eP]
    rw [e]
    rw [eP] at kP
    clear h e eP eD kD
    subst hd
    go_enter Tryd.func46, Tryd.ntmps46
    go_wp2_with fail
    apply Calls.mono
    · with_reducible exact kP _
    rintro _ w2 ⟨rfl, hb_w2⟩
    obtain ⟨hc_w2, hf_w2, hs_w2⟩ := bcell hb_w2
    try simp at hs_w2
    have hz_w2_w0 : w.heap.size < w2.heap.size := by omega
    have hy_w2_w0 : w.heap.size ≤ w2.heap.size := by omega
    have hx_w2_w0 : ∀ n : Nat, w.heap.size < w2.heap.size + n := by intro n; omega
    have hv_w2_w0 : ∀ n : Nat, w.heap.size ≤ w2.heap.size + n := by intro n; omega
    go_wp2
    go_ret
    refine ⟨by first | rfl | (simp), ?_⟩
    repeat' (first | (with_reducible exact Below.refl _ _) | (with_reducible assumption) | (with_reducible refine Below.alloc ?_ ?_ _) | (with_reducible refine Below.drew ?_) | (with_reducible refine bdrewN ?_ _) | (with_reducible refine Below.setCell ?_ ?_ _) | (with_reducible refine bthen ?_ (by assumption) ?_) | go_size)
  · have e : ftB n d = P ++ ⟨#[47]⟩ ++ D := by unfold ftB; rw [if_neg hd, eP, eD]
    rw [e]
    rw [eP] at kP
    rw [eD] at kD
    have hd' : ¬ (d = 1) := hd
    clear h e eP eD hd
    go_enter Tryd.func46, Tryd.ntmps46
    go_wp2_with fail
    refine wp_region_calm (by kernel_rfl) (by kernel_rfl) ?_
    repeat (go_big_quiet_step ((first | with_reducible exact calm (kP _) | with_reducible exact calm (kD _))))
    refine wpQuiet_nil ?_
    intro w2 hb_w2
    obtain ⟨hc_w2, hf_w2, hs_w2⟩ := bcell hb_w2
    try simp at hs_w2
    have hz_w2_w0 : w.heap.size < w2.heap.size := by omega
    have hy_w2_w0 : w.heap.size ≤ w2.heap.size := by omega
    have hx_w2_w0 : ∀ n : Nat, w.heap.size < w2.heap.size + n := by intro n; omega
    have hv_w2_w0 : ∀ n : Nat, w.heap.size ≤ w2.heap.size + n := by intro n; omega
    go_wp2
    go_ret
    refine ⟨by first | rfl | (simp), ?_⟩
    repeat' (first | (with_reducible exact Below.refl _ _) | (with_reducible assumption) | (with_reducible refine Below.alloc ?_ ?_ _) | (with_reducible refine Below.drew ?_) | (with_reducible refine bdrewN ?_ _) | (with_reducible refine Below.setCell ?_ ?_ _) | (with_reducible refine bthen ?_ (by assumption) ?_) | go_size)
theorem far_ok_all' : (List.range 10).all (fun i => (farL (i + 1)).all (fun p => okF p.1 p.2)) = true := by decide +kernel
theorem far_ok' {N : Int} (h1 : 1 ≤ N) (h2 : N ≤ 10) (p : Int × Int) (hp : p ∈ farL N) : okF p.1 p.2 = true := by
  have h := List.all_eq_true.1 far_ok_all' (N - 1).toNat (List.mem_range.2 (by omega))
  have e : (((N - 1).toNat : Nat) : Int) + 1 = N := by omega
  rw [e] at h
  exact List.all_eq_true.1 h p hp
def ftL (N : Int) : List ByteArray := (farL N).map fun p => ftB p.1 p.2
def lnB (N : Int) : ByteArray := jnB (ftL N)
def lnL (t : Nat) : List ByteArray := (List.range t).map fun (k : Nat) => lnB ((k : Int) + 1)
def flM (N : Int) : List ByteArray × Int := if inB N 1 10 then (lnL N.toNat, 0) else ([], 2)
theorem lnL_succ (t : Nat) : lnL (t + 1) = lnL t ++ [lnB ((t : Int) + 1)] := by simp [lnL, List.range_succ]
theorem lnL_len (t : Nat) : (lnL t).length = t := by simp [lnL]
theorem ftL_len (N : Int) : (ftL N).length = (farL N).length := by simp [ftL]
theorem ftL_take {N : Int} {j : Nat} {p : Int × Int} (h : (farL N)[j]? = some p) : (ftL N).take (j + 1) = (ftL N).take j ++ [ftB p.1 p.2] := by
  rw [List.take_add_one]
  simp [ftL, h]
theorem ft_size {n d : Int} (h : okF n d = true) : (ftB n d).size ≤ 43 := by
  obtain ⟨b1, b2, b3, b4⟩ := okF_bd h
  have s1 := decB_sz n (by omega) (by omega)
  have s2 := decB_sz d (by omega) (by omega)
  unfold ftB
  split
  · omega
  · rw [ByteArray.size_append, ByteArray.size_append]
    have : (⟨#[47]⟩ : ByteArray).size = 1 := rfl
    omega
theorem jn_le' : ∀ (n : Nat) (xs : List ByteArray), xs.length = n → (∀ x ∈ xs, x.size ≤ 43) → (jnB xs).size ≤ 44 * xs.length
  | 0, xs, hn, h => by
    obtain rfl := List.length_eq_zero_iff.1 hn
    rw [jn_nil]; decide
  | n + 1, xs, hn, h => by
    rcases List.eq_nil_or_concat xs with rfl | ⟨xs, y, rfl⟩
    · simp at hn
    rw [List.concat_eq_append] at *
    have hy := h y (by simp)
    have i1 := jn_le' n xs (by simpa using hn) (fun x hx => h x (List.mem_append_left _ hx))
    by_cases he : xs = []
    · subst he
      rw [List.nil_append, jn_one]
      simp; omega
    · rw [jn_snoc y he, ByteArray.size_append, ByteArray.size_append]
      have e1 : (⟨#[32]⟩ : ByteArray).size = 1 := rfl
      rw [List.length_append, List.length_singleton]
      omega
theorem ftL_mem {N : Int} (h1 : 1 ≤ N) (h2 : N ≤ 10) : ∀ x ∈ ftL N, x.size ≤ 43 := fun x hx => by
  obtain ⟨p, hp, rfl⟩ := List.mem_map.1 hx
  exact ft_size (far_ok' h1 h2 p hp)
theorem ftL_take_size {N : Int} (h1 : 1 ≤ N) (h2 : N ≤ 10) (j : Nat) : (jnB ((ftL N).take j)).size ≤ 44 * 600 := by
  have h := jn_le' _ ((ftL N).take j) rfl (fun x hx => ftL_mem h1 h2 x (List.mem_of_mem_take hx))
  have h3 := farL_len h1 (show N ≤ 40 by omega)
  have : ((ftL N).take j).length ≤ 600 := by rw [List.length_take, ftL_len]; omega
  omega
end Go.Proofs.YtlmmpeeacjbobaaDoor
