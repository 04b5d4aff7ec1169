/-
  For all arguments the program's LeastPell returns what the reference's returns. Conditions: none.
-/
import Derived.Test.YtemencapmmaljaaTop
import Derived.Test.YtemencapmmaljaaLaw
namespace Go.Proofs.Ytemencapmmaljaa
open Go.ChangeShapes Go.WideShapes Go.ChangeAt Go.RowKit Go.Joins
open Go.ChangeMaps (open_string shut_string)
set_option linter.unusedVariables false


theorem walk_FnExactLeastPell (d : Int) (wd : (Lit.int .i64 d).wf = true) (w : World) :
    Calls Try.prog 16 #[.int .i64 d] w (Ret w (.bool true)) := by
  clear wd
  have kS := fun w => leastPellS_any d w
  have kI := fun w => leastPellI_any d w
  generalize lpM d = M at *
  go_enter Try.func16, Try.ntmps16
  go_wp2_with fail
  apply Calls.mono
  · with_reducible exact kS _
  rintro _ w1 ⟨rfl, hb_w1⟩
  obtain ⟨hc_w1, hf_w1, hs_w1⟩ := bcell hb_w1
  try simp at hs_w1
  go_wp2_with fail
  apply Calls.mono
  · with_reducible exact kI _
  rintro _ w2 ⟨rfl, hb_w2⟩
  obtain ⟨hc_w2, hf_w2, hs_w2⟩ := bcell hb_w2
  try simp at hs_w2
  have hz_w2_w10 : w1.heap.size < w2.heap.size := by omega
  have hy_w2_w10 : w1.heap.size ≤ w2.heap.size := by omega
  have hx_w2_w10 : ∀ n : Nat, w1.heap.size < w2.heap.size + n := by intro n; omega
  have hv_w2_w10 : ∀ n : Nat, w1.heap.size ≤ w2.heap.size + n := by intro n; omega
  go_wp2_with fail
  apply Calls.mono
  · with_reducible exact eqPell_same _ _ _
  rintro _ w3 ⟨rfl, hb_w3⟩
  obtain ⟨hc_w3, hf_w3, hs_w3⟩ := bcell hb_w3
  try simp at hs_w3
  have hz_w3_w10 : w1.heap.size < w3.heap.size := by omega
  have hy_w3_w10 : w1.heap.size ≤ w3.heap.size := by omega
  have hx_w3_w10 : ∀ n : Nat, w1.heap.size < w3.heap.size + n := by intro n; omega
  have hv_w3_w10 : ∀ n : Nat, w1.heap.size ≤ w3.heap.size + n := by intro n; omega
  have hz_w3_w20 : w2.heap.size < w3.heap.size := by omega
  have hy_w3_w20 : w2.heap.size ≤ w3.heap.size := by omega
  have hx_w3_w20 : ∀ n : Nat, w2.heap.size < w3.heap.size + n := by intro n; omega
  have hv_w3_w20 : ∀ n : Nat, w2.heap.size ≤ w3.heap.size + n := by intro n; omega
  go_wp2
  go_ret
  refine ⟨by first | rfl | (simp), ?_⟩
  repeat' (first | (with_reducible exact Below.refl _ _) | (with_reducible assumption) | (with_reducible refine Below.alloc ?_ ?_ _) | (with_reducible refine Below.drew ?_) | (with_reducible refine bdrewN ?_ _) | (with_reducible refine Below.setCell ?_ ?_ _) | (with_reducible refine bthen ?_ (by assumption) ?_) | go_size)
set_option maxRecDepth 100000 in
theorem lifted_FnExactLeastPell (os : Os) (started : os.Started) (H : Type) (enc : TypeId × Value → H) :
    ReturnsInHanded {} Try.checked os 16 .any (Rows.fnExactLeastPellSpec.pre6 enc Try.prog Try.f16 Rows.fnExactLeastPellRow.domain false) (Rows.fnExactLeastPellSpec.post enc Try.prog Try.f16 false true false false) := by
  refine returnsInHanded_of_change (C := Try.checked) own started (by kernel_rfl) Try.func16
    (ChangeSpec.witness6 (enc := enc) (C := Try.checked) false ⟨#[], #[.int .i64 0], []⟩ 8 (by kernel_rfl) (by kernel_rfl) (by kernel_rfl) (by kernel_rfl)) ?_
  intro W base args ds gs before hval0 hW hcnd _
  have hval : ∀ (j : Nat) t v, Try.f16.params[j]? = some t → args[j]? = some v → Value.okWide Try.prog W .any base t v := hval0
  have hW' := hW
  obtain ⟨p, q, hA0, hV, rfl, hfz, hnd⟩ := hW
  have hA : DataW.TrodAll enc Try.prog W 0 (fun _ => true) true Try.f16.params.toList args.toList ds p := hA0
  rw [Try.params16] at hA hval
  obtain ⟨v0, vs0, d0, ds0, p0, q0, hargs, rfl, rfl, h0, r0⟩ := trodAll_cons hA
  obtain ⟨rfl, rfl, rfl⟩ := trodAll_nil r0
  obtain rfl : args = #[v0] := by cases args; simp_all
  obtain ⟨rfl, rfl⟩ := trodVars_none hV
  have k0 := h0
  have lt0 : ∀ x ∈ p0, x.block < W.heap.size := by obtain ⟨m, hm⟩ := k0; exact DataW.trod_lt m _ _ _ hm
  obtain ⟨a0, rfl, rfl, rfl, wf0⟩ := open_int Try.underlying2 (hval 0 2 v0 rfl rfl) h0
  clear hA0 hval0
  refine (walk_FnExactLeastPell a0 wf0 W).mono fun e W' ⟨he, bel⟩ => ?_
  subst he
  exact ⟨_, rfl, _, _, _, [], _, [], hW', trodAll_mk1 (shut_bool Try.underlying4 _), (trodAll_cons_mk (Below.trod laidOut (by kernel_rfl) (of_decide_eq_true (by kernel_rfl)) k0 bel lt0) trodAll_mk0), rfl, bel.frame _, fun h => by cases h⟩
theorem over_FnExactLeastPell : Rows.fnExactLeastPellRow.holds Try.pinned (OpenSpec.ofChange Rows.fnExactLeastPellSpec) :=
  OpenClaim.holds_of_wide 16 Try.f16 rfl rfl rfl rfl rfl rfl rfl ⟨rfl, rfl, rfl, rfl, rfl⟩ rfl rfl rfl rfl rfl (by kernel_rfl) Try.func16 (by kernel_rfl)
    (of_decide_eq_true (by kernel_rfl)) (by unfold Func.isWrapper; first | (rw [if_pos (by decide +kernel)]; kernel_rfl) | (rw [if_neg (by decide +kernel)]; exact ⟨rfl, rfl⟩))
    (fun os started H enc _ => lifted_FnExactLeastPell os started H enc)
/-- The statement. -/
theorem holds_FnExactLeastPell : Rows.FnExactLeastPellSaid := over_FnExactLeastPell
#print axioms holds_FnExactLeastPell

end Go.Proofs.Ytemencapmmaljaa
