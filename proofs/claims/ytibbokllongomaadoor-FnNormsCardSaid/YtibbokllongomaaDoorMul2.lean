/-
  The product of two pairs, the exported functions of both packages.
-/
import Derived.Test.YtibbokllongomaaDoorMul
namespace Go.Proofs.YtibbokllongomaaDoor
open Go.RowKit

def mcM (d x y z t : Int) : Int := if pcM d x y = 0 then pcM d z t else pcM d x y
def mlM (d x y z t : Int) : (Int × Int) × Int :=
  if mcM d x y z t = 0 then (if fitP d y t && okP d (mxP d x y z t) (myP x y z t) then ((mxP d x y z t, myP x y z t), 0) else ((0, 0), 5)) else ((0, 0), mcM d x y z t)
theorem mc_zero {d x y z t : Int} (h : mcM d x y z t = 0) : pcM d x y = 0 ∧ pcM d z t = 0 := by
  unfold mcM at h
  by_cases h1 : pcM d x y = 0
  · rw [if_pos h1] at h; exact ⟨h1, h⟩
  · rw [if_neg h1] at h; exact absurd h h1
theorem pc_two (d : Int) (xs ys : Nat → Int) (n : Nat) (hn : n = 2) : (if pdM d = 0 then (if ∀ t, t < n → okP d (xs t) (ys t) = true then (0 : Int) else 1) else pdM d) = mcM d (xs 0) (ys 0) (xs 1) (ys 1) := by
  unfold mcM pcM
  by_cases h : pdM d = 0
  · simp only [if_pos h]
    by_cases h2 : okP d (xs 0) (ys 0) = true
    · by_cases h3 : okP d (xs 1) (ys 1) = true
      · rw [if_pos h2, if_pos h3, if_pos, if_pos rfl]
        intro t ht
        rcases (show t = 0 ∨ t = 1 by omega) with rfl | rfl
        · exact h2
        · exact h3
      · rw [if_pos h2, if_neg h3, if_neg, if_pos rfl]
        intro h4
        exact h3 (h4 1 (by omega))
    · rw [if_neg h2, if_neg, if_neg (by omega)]
      intro h4
      exact h2 (h4 0 (by omega))
  · simp only [if_neg h]
theorem cellN (W : World) (cs : Array Value) (t : TypeId) (b j : Nat) (hb : b = W.heap.size) (v : Value) (h : cs[j]? = some v) : (W.alloc (.cells cs t)).cell? ⟨b, j, none⟩ = some v := by
  subst hb
  simp [h]
set_option maxHeartbeats 2000000 in
theorem mulPairsI_any (d x y z t : Int) (w : World) : Calls Tryd.prog 17 #[.int .i64 d, .agg #[.int .i64 x, .int .i64 y], .agg #[.int .i64 z, .int .i64 t]] w
    (Ret w (.tuple #[.agg #[.int .i64 (mlM d x y z t).1.1, .int .i64 (mlM d x y z t).1.2], .int .i64 (mlM d x y z t).2])) := by
  have htwo : _ = mcM d x y z t := pc_two d (fun j => if j = 0 then x else z) (fun j => if j = 0 then y else t) 2 rfl
  by_cases h : mcM d x y z t = 0
  · obtain ⟨p1, p2⟩ := mc_zero h
    obtain ⟨⟨d1, d2⟩, _, ok1⟩ := pc_zero p1
    obtain ⟨_, _, ok2⟩ := pc_zero p2
    have km := fun w => mulPairs_any d x y z t d1 d2 ok1 ok2 w
    have e : mlM d x y z t = (if fitP d y t && okP d (mxP d x y z t) (myP x y z t) then ((mxP d x y z t, myP x y z t), 0) else ((0, 0), 5)) := by unfold mlM; rw [if_pos h]
    rw [e]; clear e
    rw [h] at htwo
    have H := Lib.hid htwo
    clear h htwo p1 p2 ok1 ok2
    generalize mxP d x y z t = X at *
    generalize myP x y z t = Y at *
    generalize (fitP d y t && okP d X Y) = b at *
    cases b <;> simp only [Bool.false_eq_true, if_false, if_true] at km ⊢
    · go_enter Tryd.func17, Tryd.ntmps17
      go_wp2_with fail
      apply Calls.mono
      · with_reducible exact checkPell_any _ 2 2 _ (fun j => if j = 0 then x else z) (fun j => if j = 0 then y else t) (by omega) (by omega) (by omega) _ (by simp) (by intro j hj; rcases (show j = 0 ∨ j = 1 by omega) with rfl | rfl <;> exact ⟨cellN _ _ _ _ _ (by simp) _ rfl, cellN _ _ _ _ _ (by simp) _ rfl⟩) 0 H.out
      rintro _ w1 ⟨rfl, hb_w1⟩
      obtain ⟨hc_w1, hf_w1, hs_w1⟩ := bcell hb_w1
      try simp at hs_w1
      have hz_w1_w0 : w.heap.size < w1.heap.size := by omega
      have hy_w1_w0 : w.heap.size ≤ w1.heap.size := by omega
      have hx_w1_w0 : ∀ n : Nat, w.heap.size < w1.heap.size + n := by intro n; omega
      have hv_w1_w0 : ∀ n : Nat, w.heap.size ≤ w1.heap.size + n := by intro n; omega
      have hz_w1_w1 : w.heap.size + 1 < w1.heap.size := by omega
      have hy_w1_w1 : w.heap.size + 1 ≤ w1.heap.size := by omega
      have hx_w1_w1 : ∀ n : Nat, w.heap.size + 1 < w1.heap.size + n := by intro n; omega
      have hv_w1_w1 : ∀ n : Nat, w.heap.size + 1 ≤ w1.heap.size + n := by intro n; omega
      have hz_w1_w2 : w.heap.size + 2 < w1.heap.size := by omega
      have hy_w1_w2 : w.heap.size + 2 ≤ w1.heap.size := by omega
      have hx_w1_w2 : ∀ n : Nat, w.heap.size + 2 < w1.heap.size + n := by intro n; omega
      have hv_w1_w2 : ∀ n : Nat, w.heap.size + 2 ≤ w1.heap.size + n := by intro n; omega
      have hz_w1_w3 : w.heap.size + 3 < w1.heap.size := by omega
      have hy_w1_w3 : w.heap.size + 3 ≤ w1.heap.size := by omega
      have hx_w1_w3 : ∀ n : Nat, w.heap.size + 3 < w1.heap.size + n := by intro n; omega
      have hv_w1_w3 : ∀ n : Nat, w.heap.size + 3 ≤ w1.heap.size + n := by intro n; omega
      go_wp2_with fail
      apply Calls.mono
      · with_reducible exact km _
      rintro _ w2 ⟨rfl, hb_w2⟩
      obtain ⟨hc_w2, hf_w2, hs_w2⟩ := bcell hb_w2
      try simp at hs_w2
      have hz_w2_w0 : w.heap.size < w2.heap.size := by omega
      have hy_w2_w0 : w.heap.size ≤ w2.heap.size := by omega
      have hx_w2_w0 : ∀ n : Nat, w.heap.size < w2.heap.size + n := by intro n; omega
      have hv_w2_w0 : ∀ n : Nat, w.heap.size ≤ w2.heap.size + n := by intro n; omega
      have hz_w2_w1 : w.heap.size + 1 < w2.heap.size := by omega
      have hy_w2_w1 : w.heap.size + 1 ≤ w2.heap.size := by omega
      have hx_w2_w1 : ∀ n : Nat, w.heap.size + 1 < w2.heap.size + n := by intro n; omega
      have hv_w2_w1 : ∀ n : Nat, w.heap.size + 1 ≤ w2.heap.size + n := by intro n; omega
      have hz_w2_w2 : w.heap.size + 2 < w2.heap.size := by omega
      have hy_w2_w2 : w.heap.size + 2 ≤ w2.heap.size := by omega
      have hx_w2_w2 : ∀ n : Nat, w.heap.size + 2 < w2.heap.size + n := by intro n; omega
      have hv_w2_w2 : ∀ n : Nat, w.heap.size + 2 ≤ w2.heap.size + n := by intro n; omega
      have hz_w2_w3 : w.heap.size + 3 < w2.heap.size := by omega
      have hy_w2_w3 : w.heap.size + 3 ≤ w2.heap.size := by omega
      have hx_w2_w3 : ∀ n : Nat, w.heap.size + 3 < w2.heap.size + n := by intro n; omega
      have hv_w2_w3 : ∀ n : Nat, w.heap.size + 3 ≤ w2.heap.size + n := by intro n; omega
      go_wp2
      refine bodyPost_ret (by simp [results, Tryd.results17, go_sem, *]; try rfl) rfl ?_
      refine ⟨by first | rfl | simp, ?_⟩
      repeat' (first | (with_reducible exact Below.refl _ _) | (with_reducible assumption) | (with_reducible refine Below.alloc ?_ ?_ _) | (with_reducible refine Below.drew ?_) | (with_reducible refine bdrewN ?_ _) | (with_reducible refine Below.setCell ?_ ?_ _) | (with_reducible refine bthen ?_ (by assumption) ?_) | go_size)
    · go_enter Tryd.func17, Tryd.ntmps17
      go_wp2_with fail
      apply Calls.mono
      · with_reducible exact checkPell_any _ 2 2 _ (fun j => if j = 0 then x else z) (fun j => if j = 0 then y else t) (by omega) (by omega) (by omega) _ (by simp) (by intro j hj; rcases (show j = 0 ∨ j = 1 by omega) with rfl | rfl <;> exact ⟨cellN _ _ _ _ _ (by simp) _ rfl, cellN _ _ _ _ _ (by simp) _ rfl⟩) 0 H.out
      rintro _ w1 ⟨rfl, hb_w1⟩
      obtain ⟨hc_w1, hf_w1, hs_w1⟩ := bcell hb_w1
      try simp at hs_w1
      have hz_w1_w0 : w.heap.size < w1.heap.size := by omega
      have hy_w1_w0 : w.heap.size ≤ w1.heap.size := by omega
      have hx_w1_w0 : ∀ n : Nat, w.heap.size < w1.heap.size + n := by intro n; omega
      have hv_w1_w0 : ∀ n : Nat, w.heap.size ≤ w1.heap.size + n := by intro n; omega
      have hz_w1_w1 : w.heap.size + 1 < w1.heap.size := by omega
      have hy_w1_w1 : w.heap.size + 1 ≤ w1.heap.size := by omega
      have hx_w1_w1 : ∀ n : Nat, w.heap.size + 1 < w1.heap.size + n := by intro n; omega
      have hv_w1_w1 : ∀ n : Nat, w.heap.size + 1 ≤ w1.heap.size + n := by intro n; omega
      have hz_w1_w2 : w.heap.size + 2 < w1.heap.size := by omega
      have hy_w1_w2 : w.heap.size + 2 ≤ w1.heap.size := by omega
      have hx_w1_w2 : ∀ n : Nat, w.heap.size + 2 < w1.heap.size + n := by intro n; omega
      have hv_w1_w2 : ∀ n : Nat, w.heap.size + 2 ≤ w1.heap.size + n := by intro n; omega
      have hz_w1_w3 : w.heap.size + 3 < w1.heap.size := by omega
      have hy_w1_w3 : w.heap.size + 3 ≤ w1.heap.size := by omega
      have hx_w1_w3 : ∀ n : Nat, w.heap.size + 3 < w1.heap.size + n := by intro n; omega
      have hv_w1_w3 : ∀ n : Nat, w.heap.size + 3 ≤ w1.heap.size + n := by intro n; omega
      go_wp2_with fail
      apply Calls.mono
      · with_reducible exact km _
      rintro _ w2 ⟨rfl, hb_w2⟩
      obtain ⟨hc_w2, hf_w2, hs_w2⟩ := bcell hb_w2
      try simp at hs_w2
      have hz_w2_w0 : w.heap.size < w2.heap.size := by omega
      have hy_w2_w0 : w.heap.size ≤ w2.heap.size := by omega
      have hx_w2_w0 : ∀ n : Nat, w.heap.size < w2.heap.size + n := by intro n; omega
      have hv_w2_w0 : ∀ n : Nat, w.heap.size ≤ w2.heap.size + n := by intro n; omega
      have hz_w2_w1 : w.heap.size + 1 < w2.heap.size := by omega
      have hy_w2_w1 : w.heap.size + 1 ≤ w2.heap.size := by omega
      have hx_w2_w1 : ∀ n : Nat, w.heap.size + 1 < w2.heap.size + n := by intro n; omega
      have hv_w2_w1 : ∀ n : Nat, w.heap.size + 1 ≤ w2.heap.size + n := by intro n; omega
      have hz_w2_w2 : w.heap.size + 2 < w2.heap.size := by omega
      have hy_w2_w2 : w.heap.size + 2 ≤ w2.heap.size := by omega
      have hx_w2_w2 : ∀ n : Nat, w.heap.size + 2 < w2.heap.size + n := by intro n; omega
      have hv_w2_w2 : ∀ n : Nat, w.heap.size + 2 ≤ w2.heap.size + n := by intro n; omega
      have hz_w2_w3 : w.heap.size + 3 < w2.heap.size := by omega
      have hy_w2_w3 : w.heap.size + 3 ≤ w2.heap.size := by omega
      have hx_w2_w3 : ∀ n : Nat, w.heap.size + 3 < w2.heap.size + n := by intro n; omega
      have hv_w2_w3 : ∀ n : Nat, w.heap.size + 3 ≤ w2.heap.size + n := by intro n; omega
      go_wp2
      refine bodyPost_ret (by simp [results, Tryd.results17, go_sem, *]; try rfl) rfl ?_
      refine ⟨by first | rfl | simp, ?_⟩
      repeat' (first | (with_reducible exact Below.refl _ _) | (with_reducible assumption) | (with_reducible refine Below.alloc ?_ ?_ _) | (with_reducible refine Below.drew ?_) | (with_reducible refine bdrewN ?_ _) | (with_reducible refine Below.setCell ?_ ?_ _) | (with_reducible refine bthen ?_ (by assumption) ?_) | go_size)
  · have e : mlM d x y z t = ((0, 0), mcM d x y z t) := by unfold mlM; rw [if_neg h]
    rw [e]; clear e
    have hne : (mcM d x y z t != 0) = true := by simp [h]
    generalize hc : mcM d x y z t = c at *
    have H := Lib.hid htwo
    clear hc h htwo
    go_enter Tryd.func17, Tryd.ntmps17
    go_wp2_with fail
    apply Calls.mono
    · with_reducible exact checkPell_any _ 2 2 _ (fun j => if j = 0 then x else z) (fun j => if j = 0 then y else t) (by omega) (by omega) (by omega) _ (by simp) (by intro j hj; rcases (show j = 0 ∨ j = 1 by omega) with rfl | rfl <;> exact ⟨cellN _ _ _ _ _ (by simp) _ rfl, cellN _ _ _ _ _ (by simp) _ rfl⟩) c H.out
    rintro _ w1 ⟨rfl, hb_w1⟩
    obtain ⟨hc_w1, hf_w1, hs_w1⟩ := bcell hb_w1
    try simp at hs_w1
    have hz_w1_w0 : w.heap.size < w1.heap.size := by omega
    have hy_w1_w0 : w.heap.size ≤ w1.heap.size := by omega
    have hx_w1_w0 : ∀ n : Nat, w.heap.size < w1.heap.size + n := by intro n; omega
    have hv_w1_w0 : ∀ n : Nat, w.heap.size ≤ w1.heap.size + n := by intro n; omega
    have hz_w1_w1 : w.heap.size + 1 < w1.heap.size := by omega
    have hy_w1_w1 : w.heap.size + 1 ≤ w1.heap.size := by omega
    have hx_w1_w1 : ∀ n : Nat, w.heap.size + 1 < w1.heap.size + n := by intro n; omega
    have hv_w1_w1 : ∀ n : Nat, w.heap.size + 1 ≤ w1.heap.size + n := by intro n; omega
    have hz_w1_w2 : w.heap.size + 2 < w1.heap.size := by omega
    have hy_w1_w2 : w.heap.size + 2 ≤ w1.heap.size := by omega
    have hx_w1_w2 : ∀ n : Nat, w.heap.size + 2 < w1.heap.size + n := by intro n; omega
    have hv_w1_w2 : ∀ n : Nat, w.heap.size + 2 ≤ w1.heap.size + n := by intro n; omega
    have hz_w1_w3 : w.heap.size + 3 < w1.heap.size := by omega
    have hy_w1_w3 : w.heap.size + 3 ≤ w1.heap.size := by omega
    have hx_w1_w3 : ∀ n : Nat, w.heap.size + 3 < w1.heap.size + n := by intro n; omega
    have hv_w1_w3 : ∀ n : Nat, w.heap.size + 3 ≤ w1.heap.size + n := by intro n; omega
    go_wp2
    refine bodyPost_ret (by simp [results, Tryd.results17, go_sem, *]; try rfl) rfl ?_
    refine ⟨by first | rfl | simp, ?_⟩
    repeat' (first | (with_reducible exact Below.refl _ _) | (with_reducible assumption) | (with_reducible refine Below.alloc ?_ ?_ _) | (with_reducible refine Below.drew ?_) | (with_reducible refine bdrewN ?_ _) | (with_reducible refine Below.setCell ?_ ?_ _) | (with_reducible refine bthen ?_ (by assumption) ?_) | go_size)
end Go.Proofs.YtibbokllongomaaDoor
