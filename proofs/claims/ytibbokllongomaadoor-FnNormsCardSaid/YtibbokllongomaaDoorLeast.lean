/-
  Least solutions: both packages' ways, and the exported functions.
-/
import Derived.Test.YtibbokllongomaaDoorUnitT
namespace Go.Proofs.YtibbokllongomaaDoor
open Go.RowKit

def perN (d : Int) : Nat := match wk d (0, 1) with
  | some (_, m) => m - 1
  | none => 0
theorem per_spec {d : Int} (h : pdM d = 0) : wk d (0, 1) = some (1, perN d + 1) ∧ perN d ≤ 400 := by
  obtain ⟨h1, h2, h3⟩ := pd_zero h
  obtain ⟨m, hm, h4, h5, _⟩ := root_hits h1 h2 h3
  unfold perN
  rw [hm]
  simp only [Option.some.injEq, Prod.mk.injEq, true_and]
  omega
def lsB (d : Int) (l : Nat) : Bool := okP d (cvX d l).1.1 (cvX d l).1.2 && (if l % 2 = 1 then fitP d (cvX d l).1.2 (cvX d l).1.2 && okP d (mxP d (cvX d l).1.1 (cvX d l).1.2 (cvX d l).1.1 (cvX d l).1.2) (myP (cvX d l).1.1 (cvX d l).1.2 (cvX d l).1.1 (cvX d l).1.2) else true)
def lsX (d : Int) (l : Nat) : Int := if l % 2 = 1 then mxP d (cvX d l).1.1 (cvX d l).1.2 (cvX d l).1.1 (cvX d l).1.2 else (cvX d l).1.1
def lsY (d : Int) (l : Nat) : Int := if l % 2 = 1 then myP (cvX d l).1.1 (cvX d l).1.2 (cvX d l).1.1 (cvX d l).1.2 else (cvX d l).1.2
def LeastP (w : World) (d : Int) (l : Nat) (e : Ending) (w' : World) : Prop :=
  ∃ x y : Int, e = .returned (.tuple #[.agg #[.int .i64 x, .int .i64 y], .bool (lsB d l)]) ∧ (lsB d l = true → x = lsX d l ∧ y = lsY d l) ∧ Below w.heap.size w w'
theorem un_ok {d : Int} {l : Nat} (h : okP d (cvX d l).1.1 (cvX d l).1.2 = true) : unM d l = ((cvX d l).1.1, (cvX d l).1.2, sgX l, true) := by unfold unM; rw [if_pos h]
theorem un_no {d : Int} {l : Nat} (h : okP d (cvX d l).1.1 (cvX d l).1.2 = false) : unM d l = (0, 0, 0, false) := by unfold unM; rw [if_neg (by rw [h]; decide)]
theorem sg_odd {l : Nat} (h : l % 2 = 1) : sgX l = -1 := by rw [sg_val, h]; rfl
theorem sg_even {l : Nat} (h : l % 2 ≠ 1) : sgX l = 1 := by rw [sg_val, show l % 2 = 0 by omega]; rfl
set_option maxHeartbeats 2000000 in
theorem leastPell_any (d : Int) (h : pdM d = 0) (w : World) : Calls Tryd.prog 55 #[.int .i64 d] w (LeastP w d (perN d)) := by
  obtain ⟨h1, h2, h3⟩ := pd_zero h
  obtain ⟨hl, hl4⟩ := per_spec h
  generalize perN d = l at *
  have kU := fun w => unit_any d h1 h2 h3 l hl w
  clear h hl h3
  cases hk : okP d (cvX d l).1.1 (cvX d l).1.2
  · rw [un_no hk] at kU
    have hB : lsB d l = false := by unfold lsB; rw [hk]; rfl
    unfold LeastP
    rw [hB]
    clear hk hB
    go_enter Tryd.func55, Tryd.ntmps55
    go_wp2_with fail
    apply Calls.mono
    · with_reducible exact kU _
    rintro _ w1 ⟨rfl, hb_w1⟩
    obtain ⟨hc_w1, hf_w1, hs_w1⟩ := bcell hb_w1
    try simp at hs_w1
    have hz_w1_w0 : w.heap.size < w1.heap.size := by omega
    have hy_w1_w0 : w.heap.size ≤ w1.heap.size := by omega
    have hx_w1_w0 : ∀ n : Nat, w.heap.size < w1.heap.size + n := by intro n; omega
    have hv_w1_w0 : ∀ n : Nat, w.heap.size ≤ w1.heap.size + n := by intro n; omega
    go_wp2
    refine bodyPost_ret (by simp [results, Tryd.results55, go_sem, *]; try rfl) rfl ?_
    refine ⟨0, 0, rfl, fun h => absurd h (by decide), ?_⟩
    repeat' (first | (with_reducible exact Below.refl _ _) | (with_reducible assumption) | (with_reducible refine Below.alloc ?_ ?_ _) | (with_reducible refine Below.drew ?_) | (with_reducible refine bdrewN ?_ _) | (with_reducible refine Below.setCell ?_ ?_ _) | (with_reducible refine bthen ?_ (by assumption) ?_) | go_size)
  · rw [un_ok hk] at kU
    by_cases hodd : l % 2 = 1
    · have hM := fun w => mulPairs_any d _ _ _ _ h1 h2 hk hk w
      have hB : lsB d l = (fitP d (cvX d l).1.2 (cvX d l).1.2 && okP d (mxP d (cvX d l).1.1 (cvX d l).1.2 (cvX d l).1.1 (cvX d l).1.2) (myP (cvX d l).1.1 (cvX d l).1.2 (cvX d l).1.1 (cvX d l).1.2)) := by unfold lsB; rw [hk, if_pos hodd, Bool.true_and]
      have hX : lsX d l = mxP d (cvX d l).1.1 (cvX d l).1.2 (cvX d l).1.1 (cvX d l).1.2 := by unfold lsX; rw [if_pos hodd]
      have hY : lsY d l = myP (cvX d l).1.1 (cvX d l).1.2 (cvX d l).1.1 (cvX d l).1.2 := by unfold lsY; rw [if_pos hodd]
      rw [sg_odd hodd] at kU
      unfold LeastP
      rw [hB, hX, hY]
      clear hk hB hX hY hodd
      generalize (fitP d (cvX d l).1.2 (cvX d l).1.2 && okP d (mxP d (cvX d l).1.1 (cvX d l).1.2 (cvX d l).1.1 (cvX d l).1.2) (myP (cvX d l).1.1 (cvX d l).1.2 (cvX d l).1.1 (cvX d l).1.2)) = b at *
      generalize mxP d (cvX d l).1.1 (cvX d l).1.2 (cvX d l).1.1 (cvX d l).1.2 = X at *
      generalize myP (cvX d l).1.1 (cvX d l).1.2 (cvX d l).1.1 (cvX d l).1.2 = Y at *
      generalize (cvX d l).1.1 = x at *
      generalize (cvX d l).1.2 = y at *
      obtain ⟨X', hX'⟩ : ∃ X', (if b then X else 0) = X' := ⟨_, rfl⟩
      obtain ⟨Y', hY'⟩ : ∃ Y', (if b then Y else 0) = Y' := ⟨_, rfl⟩
      rw [hX', hY'] at hM
      have HX := Lib.hid hX'
      have HY := Lib.hid hY'
      clear hX' hY'
      go_enter Tryd.func55, Tryd.ntmps55
      go_wp2_with fail
      apply Calls.mono
      · with_reducible exact kU _
      rintro _ w1 ⟨rfl, hb_w1⟩
      obtain ⟨hc_w1, hf_w1, hs_w1⟩ := bcell hb_w1
      try simp at hs_w1
      have hz_w1_w0 : w.heap.size < w1.heap.size := by omega
      have hy_w1_w0 : w.heap.size ≤ w1.heap.size := by omega
      have hx_w1_w0 : ∀ n : Nat, w.heap.size < w1.heap.size + n := by intro n; omega
      have hv_w1_w0 : ∀ n : Nat, w.heap.size ≤ w1.heap.size + n := by intro n; omega
      go_wp2_with fail
      apply Calls.mono
      · with_reducible exact hM _
      rintro _ w2 ⟨rfl, hb_w2⟩
      obtain ⟨hc_w2, hf_w2, hs_w2⟩ := bcell hb_w2
      try simp at hs_w2
      have hz_w2_w0 : w.heap.size < w2.heap.size := by omega
      have hy_w2_w0 : w.heap.size ≤ w2.heap.size := by omega
      have hx_w2_w0 : ∀ n : Nat, w.heap.size < w2.heap.size + n := by intro n; omega
      have hv_w2_w0 : ∀ n : Nat, w.heap.size ≤ w2.heap.size + n := by intro n; omega
      have hz_w2_w10 : w1.heap.size < w2.heap.size := by omega
      have hy_w2_w10 : w1.heap.size ≤ w2.heap.size := by omega
      have hx_w2_w10 : ∀ n : Nat, w1.heap.size < w2.heap.size + n := by intro n; omega
      have hv_w2_w10 : ∀ n : Nat, w1.heap.size ≤ w2.heap.size + n := by intro n; omega
      go_wp2
      refine bodyPost_ret (by simp [results, Tryd.results55, go_sem, *]; try rfl) rfl ?_
      refine ⟨X', Y', rfl, fun hb => ⟨?_, ?_⟩, ?_⟩
      · rw [← HX.out, hb]; rfl
      · rw [← HY.out, hb]; rfl
      · repeat' (first | (with_reducible exact Below.refl _ _) | (with_reducible assumption) | (with_reducible refine Below.alloc ?_ ?_ _) | (with_reducible refine Below.drew ?_) | (with_reducible refine bdrewN ?_ _) | (with_reducible refine Below.setCell ?_ ?_ _) | (with_reducible refine bthen ?_ (by assumption) ?_) | go_size)
    · have hB : lsB d l = true := by unfold lsB; rw [hk, if_neg hodd]; rfl
      have hX : lsX d l = (cvX d l).1.1 := by unfold lsX; rw [if_neg hodd]
      have hY : lsY d l = (cvX d l).1.2 := by unfold lsY; rw [if_neg hodd]
      rw [sg_even hodd] at kU
      unfold LeastP
      rw [hB, hX, hY]
      clear hk hB hX hY hodd
      generalize (cvX d l).1.1 = x at *
      generalize (cvX d l).1.2 = y at *
      go_enter Tryd.func55, Tryd.ntmps55
      go_wp2_with fail
      apply Calls.mono
      · with_reducible exact kU _
      rintro _ w1 ⟨rfl, hb_w1⟩
      obtain ⟨hc_w1, hf_w1, hs_w1⟩ := bcell hb_w1
      try simp at hs_w1
      have hz_w1_w0 : w.heap.size < w1.heap.size := by omega
      have hy_w1_w0 : w.heap.size ≤ w1.heap.size := by omega
      have hx_w1_w0 : ∀ n : Nat, w.heap.size < w1.heap.size + n := by intro n; omega
      have hv_w1_w0 : ∀ n : Nat, w.heap.size ≤ w1.heap.size + n := by intro n; omega
      go_wp2
      refine bodyPost_ret (by simp [results, Tryd.results55, go_sem, *]; try rfl) rfl ?_
      refine ⟨x, y, rfl, fun _ => ⟨rfl, rfl⟩, ?_⟩
      repeat' (first | (with_reducible exact Below.refl _ _) | (with_reducible assumption) | (with_reducible refine Below.alloc ?_ ?_ _) | (with_reducible refine Below.drew ?_) | (with_reducible refine bdrewN ?_ _) | (with_reducible refine Below.setCell ?_ ?_ _) | (with_reducible refine bthen ?_ (by assumption) ?_) | go_size)
set_option maxHeartbeats 2000000 in
theorem l09Least_any (d : Int) (h : pdM d = 0) (w : World) : Calls Tryd.prog 57 #[.int .i64 d] w (LeastP w d (perN d)) := by
  obtain ⟨h1, h2, h3⟩ := pd_zero h
  obtain ⟨hl, hl4⟩ := per_spec h
  generalize perN d = l at *
  have kU := fun w => l09Unit_any d h1 h2 h3 l hl w
  clear h hl h3
  unfold UnT at kU
  have hll : (l : Int) ≤ 400 := by omega
  cases hk : okP d (cvX d l).1.1 (cvX d l).1.2
  · simp only [hk] at kU
    have hB : lsB d l = false := by unfold lsB; rw [hk]; rfl
    unfold LeastP
    rw [hB]
    clear hk hB
    go_enter Tryd.func57, Tryd.ntmps57
    go_wp2_with fail
    apply Calls.mono
    · with_reducible exact kU _
    rintro _ w1 ⟨x, y, rfl, _, hb_w1⟩
    obtain ⟨hc_w1, hf_w1, hs_w1⟩ := bcell hb_w1
    try simp at hs_w1
    have hz_w1_w0 : w.heap.size < w1.heap.size := by omega
    have hy_w1_w0 : w.heap.size ≤ w1.heap.size := by omega
    have hx_w1_w0 : ∀ n : Nat, w.heap.size < w1.heap.size + n := by intro n; omega
    have hv_w1_w0 : ∀ n : Nat, w.heap.size ≤ w1.heap.size + n := by intro n; omega
    go_wp2
    refine bodyPost_ret (by simp [results, Tryd.results57, go_sem, *]; try rfl) rfl ?_
    refine ⟨x, y, rfl, fun h => absurd h (by decide), ?_⟩
    repeat' (first | (with_reducible exact Below.refl _ _) | (with_reducible assumption) | (with_reducible refine Below.alloc ?_ ?_ _) | (with_reducible refine Below.drew ?_) | (with_reducible refine bdrewN ?_ _) | (with_reducible refine Below.setCell ?_ ?_ _) | (with_reducible refine bthen ?_ (by assumption) ?_) | go_size)
  · simp only [hk] at kU
    by_cases hodd : l % 2 = 1
    · have hM := fun w => l09Mul_any d _ _ _ _ h1 h2 hk hk w
      have hB : lsB d l = (fitP d (cvX d l).1.2 (cvX d l).1.2 && okP d (mxP d (cvX d l).1.1 (cvX d l).1.2 (cvX d l).1.1 (cvX d l).1.2) (myP (cvX d l).1.1 (cvX d l).1.2 (cvX d l).1.1 (cvX d l).1.2)) := by unfold lsB; rw [hk, if_pos hodd, Bool.true_and]
      have hX : lsX d l = mxP d (cvX d l).1.1 (cvX d l).1.2 (cvX d l).1.1 (cvX d l).1.2 := by unfold lsX; rw [if_pos hodd]
      have hY : lsY d l = myP (cvX d l).1.1 (cvX d l).1.2 (cvX d l).1.1 (cvX d l).1.2 := by unfold lsY; rw [if_pos hodd]
      have ho : ((l : Int) % 2 == 1) = true := by rw [beq_iff_eq]; omega
      unfold LeastP
      rw [hB, hX, hY]
      clear hk hB hX hY hodd
      generalize okP d (mxP d (cvX d l).1.1 (cvX d l).1.2 (cvX d l).1.1 (cvX d l).1.2) (myP (cvX d l).1.1 (cvX d l).1.2 (cvX d l).1.1 (cvX d l).1.2) = b2 at *
      generalize fitP d (cvX d l).1.2 (cvX d l).1.2 = b at *
      generalize mxP d (cvX d l).1.1 (cvX d l).1.2 (cvX d l).1.1 (cvX d l).1.2 = X at *
      generalize myP (cvX d l).1.1 (cvX d l).1.2 (cvX d l).1.1 (cvX d l).1.2 = Y at *
      generalize (cvX d l).1.1 = x at *
      generalize (cvX d l).1.2 = y at *
      obtain ⟨X', hX'⟩ : ∃ X', (if b then X else 0) = X' := ⟨_, rfl⟩
      obtain ⟨Y', hY'⟩ : ∃ Y', (if b then Y else 0) = Y' := ⟨_, rfl⟩
      obtain ⟨bb, hbb⟩ : ∃ bb, (b && b2) = bb := ⟨_, rfl⟩
      rw [hX', hY', hbb] at hM
      rw [hbb]
      have HX := Lib.hid hX'
      have HY := Lib.hid hY'
      have HB := Lib.hid hbb
      clear hX' hY' hbb
      go_enter Tryd.func57, Tryd.ntmps57
      go_wp2_with fail
      apply Calls.mono
      · with_reducible exact kU _
      rintro _ w1 ⟨x1, y1, rfl, hxy, hb_w1⟩
      obtain ⟨rfl, rfl⟩ := hxy trivial
      obtain ⟨hc_w1, hf_w1, hs_w1⟩ := bcell hb_w1
      try simp at hs_w1
      have hz_w1_w0 : w.heap.size < w1.heap.size := by omega
      have hy_w1_w0 : w.heap.size ≤ w1.heap.size := by omega
      have hx_w1_w0 : ∀ n : Nat, w.heap.size < w1.heap.size + n := by intro n; omega
      have hv_w1_w0 : ∀ n : Nat, w.heap.size ≤ w1.heap.size + n := by intro n; omega
      go_wp2_with fail
      apply Calls.mono
      · with_reducible exact hM _
      rintro _ w2 ⟨rfl, hb_w2⟩
      obtain ⟨hc_w2, hf_w2, hs_w2⟩ := bcell hb_w2
      try simp at hs_w2
      have hz_w2_w0 : w.heap.size < w2.heap.size := by omega
      have hy_w2_w0 : w.heap.size ≤ w2.heap.size := by omega
      have hx_w2_w0 : ∀ n : Nat, w.heap.size < w2.heap.size + n := by intro n; omega
      have hv_w2_w0 : ∀ n : Nat, w.heap.size ≤ w2.heap.size + n := by intro n; omega
      have hz_w2_w10 : w1.heap.size < w2.heap.size := by omega
      have hy_w2_w10 : w1.heap.size ≤ w2.heap.size := by omega
      have hx_w2_w10 : ∀ n : Nat, w1.heap.size < w2.heap.size + n := by intro n; omega
      have hv_w2_w10 : ∀ n : Nat, w1.heap.size ≤ w2.heap.size + n := by intro n; omega
      go_wp2
      refine bodyPost_ret (by simp [results, Tryd.results57, go_sem, *]; try rfl) rfl ?_
      refine ⟨X', Y', rfl, fun hb => ⟨?_, ?_⟩, ?_⟩
      · rw [← HB.out, Bool.and_eq_true] at hb; rw [← HX.out, hb.1]; rfl
      · rw [← HB.out, Bool.and_eq_true] at hb; rw [← HY.out, hb.1]; rfl
      · repeat' (first | (with_reducible exact Below.refl _ _) | (with_reducible assumption) | (with_reducible refine Below.alloc ?_ ?_ _) | (with_reducible refine Below.drew ?_) | (with_reducible refine bdrewN ?_ _) | (with_reducible refine Below.setCell ?_ ?_ _) | (with_reducible refine bthen ?_ (by assumption) ?_) | go_size)
    · have hB : lsB d l = true := by unfold lsB; rw [hk, if_neg hodd]; rfl
      have hX : lsX d l = (cvX d l).1.1 := by unfold lsX; rw [if_neg hodd]
      have hY : lsY d l = (cvX d l).1.2 := by unfold lsY; rw [if_neg hodd]
      have ho : ((l : Int) % 2 == 1) = false := by rw [beq_eq_false_iff_ne]; omega
      unfold LeastP
      rw [hB, hX, hY]
      clear hk hB hX hY hodd
      generalize (cvX d l).1.1 = x at *
      generalize (cvX d l).1.2 = y at *
      go_enter Tryd.func57, Tryd.ntmps57
      go_wp2_with fail
      apply Calls.mono
      · with_reducible exact kU _
      rintro _ w1 ⟨x1, y1, rfl, hxy, hb_w1⟩
      obtain ⟨rfl, rfl⟩ := hxy trivial
      obtain ⟨hc_w1, hf_w1, hs_w1⟩ := bcell hb_w1
      try simp at hs_w1
      have hz_w1_w0 : w.heap.size < w1.heap.size := by omega
      have hy_w1_w0 : w.heap.size ≤ w1.heap.size := by omega
      have hx_w1_w0 : ∀ n : Nat, w.heap.size < w1.heap.size + n := by intro n; omega
      have hv_w1_w0 : ∀ n : Nat, w.heap.size ≤ w1.heap.size + n := by intro n; omega
      go_wp2
      refine bodyPost_ret (by simp [results, Tryd.results57, go_sem, *]; try rfl) rfl ?_
      refine ⟨x1, y1, rfl, fun _ => ⟨rfl, rfl⟩, ?_⟩
      repeat' (first | (with_reducible exact Below.refl _ _) | (with_reducible assumption) | (with_reducible refine Below.alloc ?_ ?_ _) | (with_reducible refine Below.drew ?_) | (with_reducible refine bdrewN ?_ _) | (with_reducible refine Below.setCell ?_ ?_ _) | (with_reducible refine bthen ?_ (by assumption) ?_) | go_size)
end Go.Proofs.YtibbokllongomaaDoor
