/-
  For all arguments the program's PellPairs returns what the reference's returns. Conditions: none.
-/
import Derived.Test.YtmfmgpakoddhlaaPairs2
import Derived.Test.YtmfmgpakoddhlaaLaw
namespace Go.Proofs.Ytmfmgpakoddhlaa
open Go.ChangeShapes Go.WideShapes Go.ChangeAt Go.RowKit Go.Joins
open Go.ChangeMaps (open_string shut_string)
set_option linter.unusedVariables false


theorem walk_FnExactPellPairs (d : Int) (wd : (Lit.int .i64 d).wf = true) (n : Int) (wn : (Lit.int .i64 n).wf = true) (w : World) :
    Calls Try.prog 3 #[.int .i64 d, .int .i64 n] w (Ret w (.bool true)) := by
  clear wd wn
  have kS := fun w => pellPairsS_any d n w
  have kI := fun w => pellPairsI_any d n w
  have sm := pp_small d n
  unfold PpP at kS kI
  generalize ppM d n = M at *
  obtain ⟨xs, c⟩ := M
  simp only at kS kI sm
  generalize hxl : xs.length = nx at *
  clear hxl
  go_enter Try.func3, Try.ntmps3

  go_wp2_with fail
  apply Calls.mono
  · with_reducible exact kS _
  rintro _ w1 ⟨a0, rfl, ha0, hb_w1⟩
  obtain ⟨hc_w1, hf_w1, hs_w1⟩ := bcell hb_w1
  try simp at hs_w1
  have q_w1 := hb_w1.size
  go_wp2_with fail
  apply Calls.mono
  · with_reducible exact kI _
  rintro _ w2 ⟨g0, rfl, hg0, hb_w2⟩
  have ra0_w2 := own_below ha0 hb_w2 (Nat.le_refl _)
  obtain ⟨hc_w2, hf_w2, hs_w2⟩ := bcell hb_w2
  try simp at hs_w2
  have q_w2 := hb_w2.size
  have ap_a0_g0 := own_apart ha0 hg0 (Nat.le_refl _)
  go_wp2_with fail
  apply Calls.mono
  · with_reducible exact eqPellPairS_same _ _ _ _ _ (Rd.of_own hg0) (Rd.of_own ra0_w2)
  rintro _ w3 ⟨rfl, hb_w3⟩
  have ra0_w3 := own_below ra0_w2 hb_w3 (Nat.le_refl _)
  have rg0_w3 := own_below hg0 hb_w3 (Nat.le_refl _)
  obtain ⟨hc_w3, hf_w3, hs_w3⟩ := bcell hb_w3
  try simp at hs_w3
  have q_w3 := hb_w3.size
  go_wp2_with fail
  apply Calls.mono
  · with_reducible exact markPellPairS_any _ _ _ _ _ _ rg0_w3 (by first | omega | (simp; omega)) (by first | omega | (simp; omega)) (by first | omega | (simp; omega))
  rintro _ w4 ⟨rfl, hm0, hgr0⟩
  have hb_w4 := grown_below rg0_w3 hgr0 (Nat.le_refl _) (by omega)
  have ra0_w4 := ra0_w3.kept hgr0 ap_a0_g0
  have rg0_w4 := hm0
  obtain ⟨hc_w4, hf_w4, hs_w4⟩ := bcell hb_w4
  try simp at hs_w4
  have q_w4 := hgr0.size
  go_wp2_with fail
  apply Calls.mono
  · with_reducible exact heldPellPairS_any _ _ _ _ _ (Rd.of_own rg0_w4) (by first | omega | (simp; omega)) (by first | omega | (simp; omega)) (by first | omega | (simp; omega))
  rintro _ w5 ⟨rfl, hb_w5⟩
  have ra0_w5 := own_below ra0_w4 hb_w5 (Nat.le_refl _)
  have rg0_w5 := own_below rg0_w4 hb_w5 (Nat.le_refl _)
  obtain ⟨hc_w5, hf_w5, hs_w5⟩ := bcell hb_w5
  try simp at hs_w5
  have q_w5 := hb_w5.size
  go_wp2_with fail
  apply Calls.mono
  · with_reducible exact kI _
  rintro _ w6 ⟨h0, rfl, hh0, hb_w6⟩
  have ra0_w6 := own_below ra0_w5 hb_w6 (Nat.le_refl _)
  have rg0_w6 := own_below rg0_w5 hb_w6 (Nat.le_refl _)
  obtain ⟨hc_w6, hf_w6, hs_w6⟩ := bcell hb_w6
  try simp at hs_w6
  have q_w6 := hb_w6.size
  go_wp2_with fail
  apply Calls.mono
  · with_reducible exact eqPellPairS_same _ _ _ _ _ (Rd.of_own hh0) (Rd.of_own ra0_w6)
  rintro _ w7 ⟨rfl, hb_w7⟩
  have ra0_w7 := own_below ra0_w6 hb_w7 (Nat.le_refl _)
  have rg0_w7 := own_below rg0_w6 hb_w7 (Nat.le_refl _)
  have rh0_w7 := own_below hh0 hb_w7 (Nat.le_refl _)
  obtain ⟨hc_w7, hf_w7, hs_w7⟩ := bcell hb_w7
  try simp at hs_w7
  have q_w7 := hb_w7.size
  go_wp2_with fail
  apply Calls.mono
  · with_reducible exact heldPellPairS_any _ _ _ _ _ (Rd.of_own rg0_w7) (by first | omega | (simp; omega)) (by first | omega | (simp; omega)) (by first | omega | (simp; omega))
  rintro _ w8 ⟨rfl, hb_w8⟩
  have ra0_w8 := own_below ra0_w7 hb_w8 (Nat.le_refl _)
  have rg0_w8 := own_below rg0_w7 hb_w8 (Nat.le_refl _)
  have rh0_w8 := own_below rh0_w7 hb_w8 (Nat.le_refl _)
  obtain ⟨hc_w8, hf_w8, hs_w8⟩ := bcell hb_w8
  try simp at hs_w8
  have q_w8 := hb_w8.size
  clear ra0_w8 rg0_w8 rh0_w8
  go_wp2
  go_ret
  refine ⟨by first | rfl | (simp), ?_⟩
  repeat' (first | (with_reducible exact Below.refl _ _) | (with_reducible assumption) | (with_reducible refine Below.alloc ?_ ?_ _) | (with_reducible refine Below.drew ?_) | (with_reducible refine bdrewN ?_ _) | (with_reducible refine Below.setCell ?_ ?_ _) | (with_reducible refine bthen ?_ (by assumption) ?_) | go_size)
set_option maxRecDepth 100000 in
theorem lifted_FnExactPellPairs (os : Os) (started : os.Started) (H : Type) (enc : TypeId × Value → H) :
    ReturnsInHanded {} Try.checked os 3 .any (Rows.fnExactPellPairsSpec.pre6 enc Try.prog Try.f3 Rows.fnExactPellPairsRow.domain false) (Rows.fnExactPellPairsSpec.post enc Try.prog Try.f3 false true false false) := by
  refine returnsInHanded_of_change (C := Try.checked) own started (by kernel_rfl) Try.func3
    (ChangeSpec.witness6 (enc := enc) (C := Try.checked) false ⟨#[], #[.int .i64 0, .int .i64 0], []⟩ 8 (by kernel_rfl) (by kernel_rfl) (by kernel_rfl) (by kernel_rfl)) ?_
  intro W base args ds gs before hval0 hW hcnd _
  have hval : ∀ (j : Nat) t v, Try.f3.params[j]? = some t → args[j]? = some v → Value.okWide Try.prog W .any base t v := hval0
  have hW' := hW
  obtain ⟨p, q, hA0, hV, rfl, hfz, hnd⟩ := hW
  have hA : DataW.TrodAll enc Try.prog W 0 (fun _ => true) true Try.f3.params.toList args.toList ds p := hA0
  rw [Try.params3] at hA hval
  obtain ⟨v0, vs0, d0, ds0, p0, q0, hargs, rfl, rfl, h0, r0⟩ := trodAll_cons hA
  obtain ⟨v1, vs1, d1, ds1, p1, q1, rfl, rfl, rfl, h1, r1⟩ := trodAll_cons r0
  obtain ⟨rfl, rfl, rfl⟩ := trodAll_nil r1
  obtain rfl : args = #[v0, v1] := by cases args; simp_all
  obtain ⟨rfl, rfl⟩ := trodVars_none hV
  have k0 := h0
  have lt0 : ∀ x ∈ p0, x.block < W.heap.size := by obtain ⟨m, hm⟩ := k0; exact DataW.trod_lt m _ _ _ hm
  obtain ⟨a0, rfl, rfl, rfl, wf0⟩ := open_int Try.underlying2 (hval 0 2 v0 rfl rfl) h0
  have k1 := h1
  have lt1 : ∀ x ∈ p1, x.block < W.heap.size := by obtain ⟨m, hm⟩ := k1; exact DataW.trod_lt m _ _ _ hm
  obtain ⟨a1, rfl, rfl, rfl, wf1⟩ := open_int Try.underlying2 (hval 1 2 v1 rfl rfl) h1
  clear hA0 hval0
  refine (walk_FnExactPellPairs a0 wf0 a1 wf1 W).mono fun e W' ⟨he, bel⟩ => ?_
  subst he
  exact ⟨_, rfl, _, _, _, [], _, [], hW', trodAll_mk1 (shut_bool Try.underlying4 _), (trodAll_cons_mk (Below.trod laidOut (by kernel_rfl) (of_decide_eq_true (by kernel_rfl)) k0 bel lt0) (trodAll_cons_mk (Below.trod laidOut (by kernel_rfl) (of_decide_eq_true (by kernel_rfl)) k1 bel lt1) trodAll_mk0)), rfl, bel.frame _, fun h => by cases h⟩
theorem over_FnExactPellPairs : Rows.fnExactPellPairsRow.holds Try.pinned (OpenSpec.ofChange Rows.fnExactPellPairsSpec) :=
  OpenClaim.holds_of_wide 3 Try.f3 rfl rfl rfl rfl rfl rfl rfl ⟨rfl, rfl, rfl, rfl, rfl⟩ rfl rfl rfl rfl rfl (by kernel_rfl) Try.func3 (by kernel_rfl)
    (of_decide_eq_true (by kernel_rfl)) (by unfold Func.isWrapper; first | (rw [if_pos (by decide +kernel)]; kernel_rfl) | (rw [if_neg (by decide +kernel)]; exact ⟨rfl, rfl⟩))
    (fun os started H enc _ => lifted_FnExactPellPairs os started H enc)
/-- The statement. -/
theorem holds_FnExactPellPairs : Rows.FnExactPellPairsSaid := over_FnExactPellPairs
#print axioms holds_FnExactPellPairs

end Go.Proofs.Ytmfmgpakoddhlaa
