/-
  For all arguments the program's CompareSurd returns what the reference's returns. Conditions: none.
-/
import Derived.Test.YtghdkgbhgnnckaaSurd2
import Derived.Test.YtghdkgbhgnnckaaLaw
namespace Go.Proofs.Ytghdkgbhgnnckaa
open Go.ChangeShapes Go.WideShapes Go.ChangeAt Go.RowKit Go.Joins
open Go.ChangeMaps (open_string shut_string)
set_option linter.unusedVariables false


theorem walk_FnExactCompareSurd (a b c : Int) (wa : (Lit.int .i64 a).wf = true) (wb : (Lit.int .i64 b).wf = true) (wc : (Lit.int .i64 c).wf = true) (n m : Int) (wn : (Lit.int .i64 n).wf = true) (wm : (Lit.int .i64 m).wf = true) (w : World) :
    Calls Try.prog 11 #[.agg #[.int .i64 a, .int .i64 b, .int .i64 c], .agg #[.int .i64 n, .int .i64 m]] w (Ret w (.bool true)) := by
  clear wa wb wc wn wm
  go_enter Try.func11, Try.ntmps11
  go_wp2_with fail
  refine wp_region_calm (by kernel_rfl) (by kernel_rfl) ?_
  repeat (go_big_quiet_step ((first | with_reducible exact calm (toSurd_any _ _ _ _) | with_reducible exact calm (toFraction_any _ _ _) | with_reducible exact calm (compareSurdES_any _ _ _ _ _ _))))
  refine wpQuiet_nil ?_
  intro w1 hb_w1
  obtain ⟨hc_w1, hf_w1, hs_w1⟩ := bcell hb_w1
  try simp at hs_w1
  have hz_w1_w0 : w.heap.size < w1.heap.size := by omega
  have hy_w1_w0 : w.heap.size ≤ w1.heap.size := by omega
  have hx_w1_w0 : ∀ n : Nat, w.heap.size < w1.heap.size + n := by intro n; omega
  have hv_w1_w0 : ∀ n : Nat, w.heap.size ≤ w1.heap.size + n := by intro n; omega
  have hz_w1_w1 : w.heap.size + 1 < w1.heap.size := by omega
  have hy_w1_w1 : w.heap.size + 1 ≤ w1.heap.size := by omega
  have hx_w1_w1 : ∀ n : Nat, w.heap.size + 1 < w1.heap.size + n := by intro n; omega
  have hv_w1_w1 : ∀ n : Nat, w.heap.size + 1 ≤ w1.heap.size + n := by intro n; omega
  go_wp2_with fail
  refine wp_region_calm (by kernel_rfl) (by kernel_rfl) ?_
  repeat (go_big_quiet_step ((first | with_reducible exact calm (toSurd_any _ _ _ _) | with_reducible exact calm (toFraction_any _ _ _) | with_reducible exact calm (compareSurdEI_any _ _ _ _ _ _))))
  refine wpQuiet_nil ?_
  intro w2 hb_w2
  obtain ⟨hc_w2, hf_w2, hs_w2⟩ := bcell hb_w2
  try simp at hs_w2
  have hz_w2_w0 : w.heap.size < w2.heap.size := by omega
  have hy_w2_w0 : w.heap.size ≤ w2.heap.size := by omega
  have hx_w2_w0 : ∀ n : Nat, w.heap.size < w2.heap.size + n := by intro n; omega
  have hv_w2_w0 : ∀ n : Nat, w.heap.size ≤ w2.heap.size + n := by intro n; omega
  have hz_w2_w1 : w.heap.size + 1 < w2.heap.size := by omega
  have hy_w2_w1 : w.heap.size + 1 ≤ w2.heap.size := by omega
  have hx_w2_w1 : ∀ n : Nat, w.heap.size + 1 < w2.heap.size + n := by intro n; omega
  have hv_w2_w1 : ∀ n : Nat, w.heap.size + 1 ≤ w2.heap.size + n := by intro n; omega
  go_wp2
  go_ret
  refine ⟨by first | rfl | (simp), ?_⟩
  repeat' (first | (with_reducible exact Below.refl _ _) | (with_reducible assumption) | (with_reducible refine Below.alloc ?_ ?_ _) | (with_reducible refine Below.drew ?_) | (with_reducible refine bdrewN ?_ _) | (with_reducible refine Below.setCell ?_ ?_ _) | (with_reducible refine bthen ?_ (by assumption) ?_) | go_size)
set_option maxRecDepth 100000 in
theorem lifted_FnExactCompareSurd (os : Os) (started : os.Started) (H : Type) (enc : TypeId × Value → H) :
    ReturnsInHanded {} Try.checked os 11 .any (Rows.fnExactCompareSurdSpec.pre6 enc Try.prog Try.f11 Rows.fnExactCompareSurdRow.domain false) (Rows.fnExactCompareSurdSpec.post enc Try.prog Try.f11 false true false false) := by
  refine returnsInHanded_of_change (C := Try.checked) own started (by kernel_rfl) Try.func11
    (ChangeSpec.witness6 (enc := enc) (C := Try.checked) false ⟨#[], #[.agg #[.int .i64 0, .int .i64 0, .int .i64 0], .agg #[.int .i64 0, .int .i64 0]], []⟩ 8 (by kernel_rfl) (by kernel_rfl) (by kernel_rfl) (by kernel_rfl)) ?_
  intro W base args ds gs before hval0 hW hcnd _
  have hval : ∀ (j : Nat) t v, Try.f11.params[j]? = some t → args[j]? = some v → Value.okWide Try.prog W .any base t v := hval0
  have hW' := hW
  obtain ⟨p, q, hA0, hV, rfl, hfz, hnd⟩ := hW
  have hA : DataW.TrodAll enc Try.prog W 0 (fun _ => true) true Try.f11.params.toList args.toList ds p := hA0
  rw [Try.params11] at hA hval
  obtain ⟨v0, vs0, d0, ds0, p0, q0, hargs, rfl, rfl, h0, r0⟩ := trodAll_cons hA
  obtain ⟨v1, vs1, d1, ds1, p1, q1, rfl, rfl, rfl, h1, r1⟩ := trodAll_cons r0
  obtain ⟨rfl, rfl, rfl⟩ := trodAll_nil r1
  obtain rfl : args = #[v0, v1] := by cases args; simp_all
  obtain ⟨rfl, rfl⟩ := trodVars_none hV
  have k0 := h0
  have lt0 : ∀ x ∈ p0, x.block < W.heap.size := by obtain ⟨m, hm⟩ := k0; exact DataW.trod_lt m _ _ _ hm
  obtain ⟨c0_0, c0_1, c0_2, y0_0, y0_1, y0_2, m0, rfl, rfl, rfl, g0_0, g0_1, g0_2⟩ := open_agg3 Try.underlying26 (by kernel_rfl) (by kernel_rfl) (hval 0 26 v0 rfl rfl) h0
  obtain ⟨a0_0, e0_0, rfl, wf0_0⟩ := DataW.trod_int Try.underlying2 g0_0
  obtain ⟨a0_1, e0_1, rfl, wf0_1⟩ := DataW.trod_int Try.underlying2 g0_1
  obtain ⟨a0_2, e0_2, rfl, wf0_2⟩ := DataW.trod_int Try.underlying2 g0_2
  simp at e0_0 e0_1 e0_2
  subst e0_0 e0_1 e0_2
  have k1 := h1
  have lt1 : ∀ x ∈ p1, x.block < W.heap.size := by obtain ⟨m, hm⟩ := k1; exact DataW.trod_lt m _ _ _ hm
  obtain ⟨c1_0, c1_1, y1_0, y1_1, m1, rfl, rfl, rfl, g1_0, g1_1⟩ := open_agg2 Try.underlying43 (by kernel_rfl) (by kernel_rfl) (hval 1 43 v1 rfl rfl) h1
  obtain ⟨a1_0, e1_0, rfl, wf1_0⟩ := DataW.trod_int Try.underlying2 g1_0
  obtain ⟨a1_1, e1_1, rfl, wf1_1⟩ := DataW.trod_int Try.underlying2 g1_1
  simp at e1_0 e1_1
  subst e1_0 e1_1
  clear hA0 hval0
  refine (walk_FnExactCompareSurd a0_0 a0_1 a0_2 wf0_0 wf0_1 wf0_2 a1_0 a1_1 wf1_0 wf1_1 W).mono fun e W' ⟨he, bel⟩ => ?_
  subst he
  exact ⟨_, rfl, _, _, _, [], _, [], hW', trodAll_mk1 (shut_bool Try.underlying4 _), (trodAll_cons_mk (Below.trod laidOut (by kernel_rfl) (of_decide_eq_true (by kernel_rfl)) k0 bel lt0) (trodAll_cons_mk (Below.trod laidOut (by kernel_rfl) (of_decide_eq_true (by kernel_rfl)) k1 bel lt1) trodAll_mk0)), rfl, bel.frame _, fun h => by cases h⟩
theorem over_FnExactCompareSurd : Rows.fnExactCompareSurdRow.holds Try.pinned (OpenSpec.ofChange Rows.fnExactCompareSurdSpec) :=
  OpenClaim.holds_of_wide 11 Try.f11 rfl rfl rfl rfl rfl rfl rfl ⟨rfl, rfl, rfl, rfl, rfl⟩ rfl rfl rfl rfl rfl (by kernel_rfl) Try.func11 (by kernel_rfl)
    (of_decide_eq_true (by kernel_rfl)) (by unfold Func.isWrapper; first | (rw [if_pos (by decide +kernel)]; kernel_rfl) | (rw [if_neg (by decide +kernel)]; exact ⟨rfl, rfl⟩))
    (fun os started H enc _ => lifted_FnExactCompareSurd os started H enc)
/-- The statement. -/
theorem holds_FnExactCompareSurd : Rows.FnExactCompareSurdSaid := over_FnExactCompareSurd
#print axioms holds_FnExactCompareSurd

end Go.Proofs.Ytghdkgbhgnnckaa
