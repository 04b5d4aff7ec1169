/-
  For all arguments the program's ParentFraction returns what the reference's returns. Conditions: none.
-/
import Derived.Test.YtlmmpeeacjbobaaPb
import Derived.Test.YtlmmpeeacjbobaaLaw
namespace Go.Proofs.Ytlmmpeeacjbobaa
open Go.ChangeShapes Go.WideShapes Go.ChangeAt Go.RowKit Go.Joins
open Go.ChangeMaps (open_string shut_string)
set_option linter.unusedVariables false

theorem walk_FnExactParentFraction (n d : Int) (hn : (Lit.int .i64 n).wf = true) (hd : (Lit.int .i64 d).wf = true) (w : World) :
    Calls Try.prog 3 #[.agg #[.int .i64 n, .int .i64 d]] w (Ret w (.bool true)) := by
  clear hn hd
  have e1 : ((paM n d).1 == (paM n d).1 && (paM n d).2.1 == (paM n d).2.1) = true := by simp
  have E1 := Lib.hid e1
  clear e1
  go_enter Try.func3, Try.ntmps3
  go_wp2_with fail
  apply Calls.mono
  · with_reducible exact toFraction_any _ _ _
  rintro _ w1 ⟨rfl, hb_w1⟩
  obtain ⟨hc_w1, hf_w1, hs_w1⟩ := bcell hb_w1
  try simp at hs_w1
  have hz_w1_w0 : w.heap.size < w1.heap.size := by omega
  have hy_w1_w0 : w.heap.size ≤ w1.heap.size := by omega
  have hx_w1_w0 : ∀ n : Nat, w.heap.size < w1.heap.size + n := by intro n; omega
  have hv_w1_w0 : ∀ n : Nat, w.heap.size ≤ w1.heap.size + n := by intro n; omega
  go_wp2_with fail
  apply Calls.mono
  · with_reducible exact parentS_any _ _ _
  rintro _ w2 ⟨rfl, hb_w2⟩
  obtain ⟨hc_w2, hf_w2, hs_w2⟩ := bcell hb_w2
  try simp at hs_w2
  have hz_w2_w0 : w.heap.size < w2.heap.size := by omega
  have hy_w2_w0 : w.heap.size ≤ w2.heap.size := by omega
  have hx_w2_w0 : ∀ n : Nat, w.heap.size < w2.heap.size + n := by intro n; omega
  have hv_w2_w0 : ∀ n : Nat, w.heap.size ≤ w2.heap.size + n := by intro n; omega
  go_wp2_with fail
  apply Calls.mono
  · with_reducible exact toFraction_any _ _ _
  rintro _ w3 ⟨rfl, hb_w3⟩
  obtain ⟨hc_w3, hf_w3, hs_w3⟩ := bcell hb_w3
  try simp at hs_w3
  have hz_w3_w0 : w.heap.size < w3.heap.size := by omega
  have hy_w3_w0 : w.heap.size ≤ w3.heap.size := by omega
  have hx_w3_w0 : ∀ n : Nat, w.heap.size < w3.heap.size + n := by intro n; omega
  have hv_w3_w0 : ∀ n : Nat, w.heap.size ≤ w3.heap.size + n := by intro n; omega
  have hz_w3_w20 : w2.heap.size < w3.heap.size := by omega
  have hy_w3_w20 : w2.heap.size ≤ w3.heap.size := by omega
  have hx_w3_w20 : ∀ n : Nat, w2.heap.size < w3.heap.size + n := by intro n; omega
  have hv_w3_w20 : ∀ n : Nat, w2.heap.size ≤ w3.heap.size + n := by intro n; omega
  go_wp2_with fail
  apply Calls.mono
  · with_reducible exact parentI_any _ _ _
  rintro _ w4 ⟨rfl, hb_w4⟩
  obtain ⟨hc_w4, hf_w4, hs_w4⟩ := bcell hb_w4
  try simp at hs_w4
  have hz_w4_w0 : w.heap.size < w4.heap.size := by omega
  have hy_w4_w0 : w.heap.size ≤ w4.heap.size := by omega
  have hx_w4_w0 : ∀ n : Nat, w.heap.size < w4.heap.size + n := by intro n; omega
  have hv_w4_w0 : ∀ n : Nat, w.heap.size ≤ w4.heap.size + n := by intro n; omega
  have hz_w4_w20 : w2.heap.size < w4.heap.size := by omega
  have hy_w4_w20 : w2.heap.size ≤ w4.heap.size := by omega
  have hx_w4_w20 : ∀ n : Nat, w2.heap.size < w4.heap.size + n := by intro n; omega
  have hv_w4_w20 : ∀ n : Nat, w2.heap.size ≤ w4.heap.size + n := by intro n; omega
  go_wp2_with fail
  apply Calls.mono
  · with_reducible exact eqFraction_any _ _ _ _ true E1.out _
  rintro _ w5 ⟨rfl, hb_w5⟩
  obtain ⟨hc_w5, hf_w5, hs_w5⟩ := bcell hb_w5
  try simp at hs_w5
  have hz_w5_w0 : w.heap.size < w5.heap.size := by omega
  have hy_w5_w0 : w.heap.size ≤ w5.heap.size := by omega
  have hx_w5_w0 : ∀ n : Nat, w.heap.size < w5.heap.size + n := by intro n; omega
  have hv_w5_w0 : ∀ n : Nat, w.heap.size ≤ w5.heap.size + n := by intro n; omega
  have hz_w5_w20 : w2.heap.size < w5.heap.size := by omega
  have hy_w5_w20 : w2.heap.size ≤ w5.heap.size := by omega
  have hx_w5_w20 : ∀ n : Nat, w2.heap.size < w5.heap.size + n := by intro n; omega
  have hv_w5_w20 : ∀ n : Nat, w2.heap.size ≤ w5.heap.size + n := by intro n; omega
  have hz_w5_w40 : w4.heap.size < w5.heap.size := by omega
  have hy_w5_w40 : w4.heap.size ≤ w5.heap.size := by omega
  have hx_w5_w40 : ∀ n : Nat, w4.heap.size < w5.heap.size + n := by intro n; omega
  have hv_w5_w40 : ∀ n : Nat, w4.heap.size ≤ w5.heap.size + n := by intro n; omega
  go_wp2
  go_ret
  refine ⟨by first | rfl | (simp), ?_⟩
  repeat' (first | (with_reducible exact Below.refl _ _) | (with_reducible assumption) | (with_reducible refine Below.alloc ?_ ?_ _) | (with_reducible refine Below.drew ?_) | (with_reducible refine bdrewN ?_ _) | (with_reducible refine Below.setCell ?_ ?_ _) | (with_reducible refine bthen ?_ (by assumption) ?_) | go_size)
set_option maxRecDepth 100000 in
theorem lifted_FnExactParentFraction (os : Os) (started : os.Started) (H : Type) (enc : TypeId × Value → H) :
    ReturnsInHanded {} Try.checked os 3 .any (Rows.fnExactParentFractionSpec.pre6 enc Try.prog Try.f3 Rows.fnExactParentFractionRow.domain false) (Rows.fnExactParentFractionSpec.post enc Try.prog Try.f3 false true false false) := by
  refine returnsInHanded_of_change (C := Try.checked) own started (by kernel_rfl) Try.func3
    (ChangeSpec.witness6 (enc := enc) (C := Try.checked) false ⟨#[], #[.agg #[.int .i64 0, .int .i64 0]], []⟩ 8 (by kernel_rfl) (by kernel_rfl) (by kernel_rfl) (by kernel_rfl)) ?_
  intro W base args ds gs before hval0 hW hcnd _
  have hval : ∀ (j : Nat) t v, Try.f3.params[j]? = some t → args[j]? = some v → Value.okWide Try.prog W .any base t v := hval0
  have hW' := hW
  obtain ⟨p, q, hA0, hV, rfl, hfz, hnd⟩ := hW
  have hA : DataW.TrodAll enc Try.prog W 0 (fun _ => true) true Try.f3.params.toList args.toList ds p := hA0
  rw [Try.params3] at hA hval
  obtain ⟨v0, vs0, d0, ds0, p0, q0, hargs, rfl, rfl, h0, r0⟩ := trodAll_cons hA
  obtain ⟨rfl, rfl, rfl⟩ := trodAll_nil r0
  obtain rfl : args = #[v0] := by cases args; simp_all
  obtain ⟨rfl, rfl⟩ := trodVars_none hV
  have k0 := h0
  have lt0 : ∀ x ∈ p0, x.block < W.heap.size := by obtain ⟨m, hm⟩ := k0; exact DataW.trod_lt m _ _ _ hm
  obtain ⟨c0_0, c0_1, y0_0, y0_1, m0, rfl, rfl, rfl, g0_0, g0_1⟩ := open_agg2 Try.underlying23 (by kernel_rfl) (by kernel_rfl) (hval 0 23 v0 rfl rfl) h0
  obtain ⟨a0_0, e0_0, rfl, wf0_0⟩ := DataW.trod_int Try.underlying2 g0_0
  obtain ⟨a0_1, e0_1, rfl, wf0_1⟩ := DataW.trod_int Try.underlying2 g0_1
  simp at e0_0 e0_1
  subst e0_0 e0_1
  clear hA0 hval0
  refine (walk_FnExactParentFraction a0_0 a0_1 wf0_0 wf0_1 W).mono fun e W' ⟨he, bel⟩ => ?_
  subst he
  exact ⟨_, rfl, _, _, _, [], _, [], hW', trodAll_mk1 (shut_bool Try.underlying4 _), (trodAll_cons_mk (Below.trod laidOut (by kernel_rfl) (of_decide_eq_true (by kernel_rfl)) k0 bel lt0) trodAll_mk0), rfl, bel.frame _, fun h => by cases h⟩
theorem over_FnExactParentFraction : Rows.fnExactParentFractionRow.holds Try.pinned (OpenSpec.ofChange Rows.fnExactParentFractionSpec) :=
  OpenClaim.holds_of_wide 3 Try.f3 rfl rfl rfl rfl rfl rfl rfl ⟨rfl, rfl, rfl, rfl, rfl⟩ rfl rfl rfl rfl rfl (by kernel_rfl) Try.func3 (by kernel_rfl)
    (of_decide_eq_true (by kernel_rfl)) (by unfold Func.isWrapper; first | (rw [if_pos (by decide +kernel)]; kernel_rfl) | (rw [if_neg (by decide +kernel)]; exact ⟨rfl, rfl⟩))
    (fun os started H enc _ => lifted_FnExactParentFraction os started H enc)
/-- The statement. -/
theorem holds_FnExactParentFraction : Rows.FnExactParentFractionSaid := over_FnExactParentFraction
#print axioms holds_FnExactParentFraction

end Go.Proofs.Ytlmmpeeacjbobaa
