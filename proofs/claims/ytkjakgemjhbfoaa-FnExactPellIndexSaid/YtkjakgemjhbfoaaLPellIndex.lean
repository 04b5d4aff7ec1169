/-
  For all arguments the program's PellIndex returns what the reference's returns. Conditions: none.
-/
import Derived.Test.YtkjakgemjhbfoaaPi
import Derived.Test.YtkjakgemjhbfoaaLaw
namespace Go.Proofs.Ytkjakgemjhbfoaa
open Go.ChangeShapes Go.WideShapes Go.ChangeAt Go.RowKit Go.Joins
open Go.ChangeMaps (open_string shut_string)
set_option linter.unusedVariables false

/-- Both packages answer alike. -/
theorem pi_both (d x y : Int) : ∃ k c : Int, (∀ w, Calls Try.prog 33 #[.int .i64 d, .agg #[.int .i64 x, .int .i64 y]] w (Ret w (.tuple #[.int .i64 k, .int .i64 c]))) ∧ (∀ w, Calls Try.prog 17 #[.int .i64 d, .agg #[.int .i64 x, .int .i64 y]] w (Ret w (.tuple #[.int .i64 k, .int .i64 c]))) := by
  by_cases h : pcM d x y = 0
  · by_cases hs : nmV d x y = 1 ∧ 1 ≤ x ∧ 1 ≤ y
    · obtain ⟨n, S⟩ := sol_of h hs.1 hs.2.1 hs.2.2
      exact ⟨_, _, pellIndexS_sol d x y n S, pellIndexI_sol d x y n S⟩
    · exact ⟨_, _, pellIndexS_no d x y h hs, pellIndexI_no d x y h hs⟩
  · exact ⟨_, _, pellIndexS_bad d x y _ rfl h, pellIndexI_bad d x y _ rfl h⟩
theorem walk_FnExactPellIndex (d : Int) (wd : (Lit.int .i64 d).wf = true) (x y : Int) (wx : (Lit.int .i64 x).wf = true) (wy : (Lit.int .i64 y).wf = true) (w : World) :
    Calls Try.prog 6 #[.int .i64 d, .agg #[.int .i64 x, .int .i64 y]] w (Ret w (.bool true)) := by
  clear wd wx wy
  obtain ⟨k, c, kS, kI⟩ := pi_both d x y
  go_enter Try.func6, Try.ntmps6
  go_wp2_with fail
  apply Calls.mono
  · with_reducible exact toPell_any _ _ _
  rintro _ w1 ⟨rfl, hb_w1⟩
  obtain ⟨hc_w1, hf_w1, hs_w1⟩ := bcell hb_w1
  try simp at hs_w1
  have hz_w1_w0 : w.heap.size < w1.heap.size := by omega
  have hy_w1_w0 : w.heap.size ≤ w1.heap.size := by omega
  have hx_w1_w0 : ∀ n : Nat, w.heap.size < w1.heap.size + n := by intro n; omega
  have hv_w1_w0 : ∀ n : Nat, w.heap.size ≤ w1.heap.size + n := by intro n; omega
  go_wp2_with fail
  apply Calls.mono
  · with_reducible exact kS _
  rintro _ w2 ⟨rfl, hb_w2⟩
  obtain ⟨hc_w2, hf_w2, hs_w2⟩ := bcell hb_w2
  try simp at hs_w2
  have hz_w2_w0 : w.heap.size < w2.heap.size := by omega
  have hy_w2_w0 : w.heap.size ≤ w2.heap.size := by omega
  have hx_w2_w0 : ∀ n : Nat, w.heap.size < w2.heap.size + n := by intro n; omega
  have hv_w2_w0 : ∀ n : Nat, w.heap.size ≤ w2.heap.size + n := by intro n; omega
  go_wp2_with fail
  apply Calls.mono
  · with_reducible exact toPell_any _ _ _
  rintro _ w3 ⟨rfl, hb_w3⟩
  obtain ⟨hc_w3, hf_w3, hs_w3⟩ := bcell hb_w3
  try simp at hs_w3
  have hz_w3_w0 : w.heap.size < w3.heap.size := by omega
  have hy_w3_w0 : w.heap.size ≤ w3.heap.size := by omega
  have hx_w3_w0 : ∀ n : Nat, w.heap.size < w3.heap.size + n := by intro n; omega
  have hv_w3_w0 : ∀ n : Nat, w.heap.size ≤ w3.heap.size + n := by intro n; omega
  go_wp2_with fail
  apply Calls.mono
  · with_reducible exact kI _
  rintro _ w4 ⟨rfl, hb_w4⟩
  obtain ⟨hc_w4, hf_w4, hs_w4⟩ := bcell hb_w4
  try simp at hs_w4
  have hz_w4_w0 : w.heap.size < w4.heap.size := by omega
  have hy_w4_w0 : w.heap.size ≤ w4.heap.size := by omega
  have hx_w4_w0 : ∀ n : Nat, w.heap.size < w4.heap.size + n := by intro n; omega
  have hv_w4_w0 : ∀ n : Nat, w.heap.size ≤ w4.heap.size + n := by intro n; omega
  go_wp2
  go_ret
  refine ⟨by first | rfl | (simp), ?_⟩
  repeat' (first | (with_reducible exact Below.refl _ _) | (with_reducible assumption) | (with_reducible refine Below.alloc ?_ ?_ _) | (with_reducible refine Below.drew ?_) | (with_reducible refine bdrewN ?_ _) | (with_reducible refine Below.setCell ?_ ?_ _) | (with_reducible refine bthen ?_ (by assumption) ?_) | go_size)
set_option maxRecDepth 100000 in
theorem lifted_FnExactPellIndex (os : Os) (started : os.Started) (H : Type) (enc : TypeId × Value → H) :
    ReturnsInHanded {} Try.checked os 6 .any (Rows.fnExactPellIndexSpec.pre6 enc Try.prog Try.f6 Rows.fnExactPellIndexRow.domain false) (Rows.fnExactPellIndexSpec.post enc Try.prog Try.f6 false true false false) := by
  refine returnsInHanded_of_change (C := Try.checked) own started (by kernel_rfl) Try.func6
    (ChangeSpec.witness6 (enc := enc) (C := Try.checked) false ⟨#[], #[.int .i64 0, .agg #[.int .i64 0, .int .i64 0]], []⟩ 8 (by kernel_rfl) (by kernel_rfl) (by kernel_rfl) (by kernel_rfl)) ?_
  intro W base args ds gs before hval0 hW hcnd _
  have hval : ∀ (j : Nat) t v, Try.f6.params[j]? = some t → args[j]? = some v → Value.okWide Try.prog W .any base t v := hval0
  have hW' := hW
  obtain ⟨p, q, hA0, hV, rfl, hfz, hnd⟩ := hW
  have hA : DataW.TrodAll enc Try.prog W 0 (fun _ => true) true Try.f6.params.toList args.toList ds p := hA0
  rw [Try.params6] at hA hval
  obtain ⟨v0, vs0, d0, ds0, p0, q0, hargs, rfl, rfl, h0, r0⟩ := trodAll_cons hA
  obtain ⟨v1, vs1, d1, ds1, p1, q1, rfl, rfl, rfl, h1, r1⟩ := trodAll_cons r0
  obtain ⟨rfl, rfl, rfl⟩ := trodAll_nil r1
  obtain rfl : args = #[v0, v1] := by cases args; simp_all
  obtain ⟨rfl, rfl⟩ := trodVars_none hV
  have k0 := h0
  have lt0 : ∀ x ∈ p0, x.block < W.heap.size := by obtain ⟨m, hm⟩ := k0; exact DataW.trod_lt m _ _ _ hm
  obtain ⟨a0, rfl, rfl, rfl, wf0⟩ := open_int Try.underlying2 (hval 0 2 v0 rfl rfl) h0
  have k1 := h1
  have lt1 : ∀ x ∈ p1, x.block < W.heap.size := by obtain ⟨m, hm⟩ := k1; exact DataW.trod_lt m _ _ _ hm
  obtain ⟨c1_0, c1_1, y1_0, y1_1, m1, rfl, rfl, rfl, g1_0, g1_1⟩ := open_agg2 Try.underlying62 (by kernel_rfl) (by kernel_rfl) (hval 1 62 v1 rfl rfl) h1
  obtain ⟨a1_0, e1_0, rfl, wf1_0⟩ := DataW.trod_int Try.underlying2 g1_0
  obtain ⟨a1_1, e1_1, rfl, wf1_1⟩ := DataW.trod_int Try.underlying2 g1_1
  simp at e1_0 e1_1
  subst e1_0 e1_1
  clear hA0 hval0
  refine (walk_FnExactPellIndex a0 wf0 a1_0 a1_1 wf1_0 wf1_1 W).mono fun e W' ⟨he, bel⟩ => ?_
  subst he
  exact ⟨_, rfl, _, _, _, [], _, [], hW', trodAll_mk1 (shut_bool Try.underlying4 _), (trodAll_cons_mk (Below.trod laidOut (by kernel_rfl) (of_decide_eq_true (by kernel_rfl)) k0 bel lt0) (trodAll_cons_mk (Below.trod laidOut (by kernel_rfl) (of_decide_eq_true (by kernel_rfl)) k1 bel lt1) trodAll_mk0)), rfl, bel.frame _, fun h => by cases h⟩
theorem over_FnExactPellIndex : Rows.fnExactPellIndexRow.holds Try.pinned (OpenSpec.ofChange Rows.fnExactPellIndexSpec) :=
  OpenClaim.holds_of_wide 6 Try.f6 rfl rfl rfl rfl rfl rfl rfl ⟨rfl, rfl, rfl, rfl, rfl⟩ rfl rfl rfl rfl rfl (by kernel_rfl) Try.func6 (by kernel_rfl)
    (of_decide_eq_true (by kernel_rfl)) (by unfold Func.isWrapper; first | (rw [if_pos (by decide +kernel)]; kernel_rfl) | (rw [if_neg (by decide +kernel)]; exact ⟨rfl, rfl⟩))
    (fun os started H enc _ => lifted_FnExactPellIndex os started H enc)
/-- The statement. -/
theorem holds_FnExactPellIndex : Rows.FnExactPellIndexSaid := over_FnExactPellIndex
#print axioms holds_FnExactPellIndex

end Go.Proofs.Ytkjakgemjhbfoaa
