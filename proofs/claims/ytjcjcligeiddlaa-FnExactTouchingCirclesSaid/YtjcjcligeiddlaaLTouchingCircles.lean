/-
  For all arguments the program's TouchingCircles returns what the reference's returns. Conditions: none.
-/
import Derived.Test.YtjcjcligeiddlaaFarey4
import Derived.Test.YtjcjcligeiddlaaLaw
namespace Go.Proofs.Ytjcjcligeiddlaa
open Go.ChangeShapes Go.WideShapes Go.ChangeAt Go.RowKit Go.Joins
open Go.ChangeMaps (open_string shut_string)
set_option linter.unusedVariables false

theorem walk_FnExactTouchingCircles (N : Int) (hN : (Lit.int .i64 N).wf = true) (n d : Int) (hn : (Lit.int .i64 n).wf = true) (hd : (Lit.int .i64 d).wf = true) (w : World) :
    Calls Try.prog 13 #[.int .i64 N, .agg #[.int .i64 n, .int .i64 d]] w (Ret w (.bool true)) := by
  clear hN hn hd
  have hlen : (touchM N n d).1.length ≤ 600 := by
    unfold touchM
    split
    · rename_i h
      obtain ⟨b1, b2, _⟩ := chk_zero h
      exact Nat.le_trans (List.length_filter_le _ _) (farL_len b1 b2).2
    · simp
  go_enter Try.func13, Try.ntmps13
  go_wp2_with fail
  apply Calls.mono
  · with_reducible exact toFraction_any _ _ _
  rintro _ w0 ⟨rfl, hb_w0⟩
  obtain ⟨hc_w0, hf_w0, hs_w0⟩ := bcell hb_w0
  try simp at hs_w0
  have hz_w0_w0 : w.heap.size < w0.heap.size := by omega
  have hy_w0_w0 : w.heap.size ≤ w0.heap.size := by omega
  have hx_w0_w0 : ∀ n : Nat, w.heap.size < w0.heap.size + n := by intro n; omega
  have hv_w0_w0 : ∀ n : Nat, w.heap.size ≤ w0.heap.size + n := by intro n; omega
  go_wp2_with fail
  apply Calls.mono
  · with_reducible exact touchingS_any _ _ _ _
  rintro _ w1 ⟨v1, rfl, ho1, hb_w1⟩
  obtain ⟨hc_w1, hf_w1, hs_w1⟩ := bcell hb_w1
  try simp at hs_w1
  have hz_w1_w0 : w.heap.size < w1.heap.size := by omega
  have hy_w1_w0 : w.heap.size ≤ w1.heap.size := by omega
  have hx_w1_w0 : ∀ n : Nat, w.heap.size < w1.heap.size + n := by intro n; omega
  have hv_w1_w0 : ∀ n : Nat, w.heap.size ≤ w1.heap.size + n := by intro n; omega
  go_wp2_with fail
  apply Calls.mono
  · with_reducible exact toFraction_any _ _ _
  rintro _ w1b ⟨rfl, hb_w1b⟩
  obtain ⟨hc_w1b, hf_w1b, hs_w1b⟩ := bcell hb_w1b
  try simp at hs_w1b
  have hz_w1b_w0 : w.heap.size < w1b.heap.size := by omega
  have hy_w1b_w0 : w.heap.size ≤ w1b.heap.size := by omega
  have hx_w1b_w0 : ∀ n : Nat, w.heap.size < w1b.heap.size + n := by intro n; omega
  have hv_w1b_w0 : ∀ n : Nat, w.heap.size ≤ w1b.heap.size + n := by intro n; omega
  have ho1x := own_below ho1 hb_w1b (Nat.le_refl _)
  go_wp2_with fail
  apply Calls.mono
  · with_reducible exact touchingI_any _ _ _ _
  rintro _ w2 ⟨v2, rfl, ho2, hb_w2⟩
  obtain ⟨hc_w2, hf_w2, hs_w2⟩ := bcell hb_w2
  try simp at hs_w2
  have hz_w2_w0 : w.heap.size < w2.heap.size := by omega
  have hy_w2_w0 : w.heap.size ≤ w2.heap.size := by omega
  have hx_w2_w0 : ∀ n : Nat, w.heap.size < w2.heap.size + n := by intro n; omega
  have hv_w2_w0 : ∀ n : Nat, w.heap.size ≤ w2.heap.size + n := by intro n; omega
  have hap := own_apart ho1x ho2 (Nat.le_refl _)
  have ho1b := own_below ho1x hb_w2 (Nat.le_refl _)
  go_wp2_with fail
  apply Calls.mono
  · with_reducible exact eqFractionS_any _ _ _ _ _ _ _ (Rd.of_own ho2) (Rd.of_own ho1b) true (by simp)
  rintro _ w3 ⟨rfl, hb_w3⟩
  obtain ⟨hc_w3, hf_w3, hs_w3⟩ := bcell hb_w3
  try simp at hs_w3
  have hz_w3_w0 : w.heap.size < w3.heap.size := by omega
  have hy_w3_w0 : w.heap.size ≤ w3.heap.size := by omega
  have hx_w3_w0 : ∀ n : Nat, w.heap.size < w3.heap.size + n := by intro n; omega
  have hv_w3_w0 : ∀ n : Nat, w.heap.size ≤ w3.heap.size + n := by intro n; omega
  have ho1c := own_below ho1b hb_w3 (Nat.le_refl _)
  have ho2c := own_below ho2 hb_w3 (Nat.le_refl _)
  go_wp2_with fail
  apply Calls.mono
  · with_reducible exact markFractionS_any _ _ _ 1 _ _ ho2c (by omega) (by omega) (by omega)
  rintro _ w4 ⟨rfl, hm4, hg4⟩
  have ho1d := ho1c.kept hg4 hap
  have hb_w4' := grown_below ho2c hg4 (B := w1b.heap.size) (Nat.le_refl _) (by omega)
  have s4 := hb_w4'.size
  have hc4 : ∀ b o, b < w1b.heap.size → w4.cell? ⟨b, o, none⟩ = w3.cell? ⟨b, o, none⟩ := fun b o h => hb_w4'.cell (p := ⟨b, o, none⟩) h
  go_wp2_with fail
  apply Calls.mono
  · with_reducible exact heldFractionS_any _ _ 1 _ _ (Rd.of_own hm4) (by omega) (by omega) (by omega)
  rintro _ w5 ⟨rfl, hb_w5⟩
  have ho1e := own_below ho1d hb_w5 (Nat.le_refl _)
  have hm5 := own_below hm4 hb_w5 (Nat.le_refl _)
  have hz4 : w.heap.size < w4.heap.size := by omega
  obtain ⟨hc_w5, hf_w5, hs_w5⟩ := bcell hb_w5
  try simp at hs_w5
  have hz_w5_w0 : w.heap.size < w5.heap.size := by omega
  have hy_w5_w0 : w.heap.size ≤ w5.heap.size := by omega
  have hx_w5_w0 : ∀ n : Nat, w.heap.size < w5.heap.size + n := by intro n; omega
  have hv_w5_w0 : ∀ n : Nat, w.heap.size ≤ w5.heap.size + n := by intro n; omega
  go_wp2_with fail
  apply Calls.mono
  · with_reducible exact toFraction_any _ _ _
  rintro _ w5b ⟨rfl, hb_w5b⟩
  obtain ⟨hc_w5b, hf_w5b, hs_w5b⟩ := bcell hb_w5b
  try simp at hs_w5b
  have hz_w5b_w0 : w.heap.size < w5b.heap.size := by omega
  have hy_w5b_w0 : w.heap.size ≤ w5b.heap.size := by omega
  have hx_w5b_w0 : ∀ n : Nat, w.heap.size < w5b.heap.size + n := by intro n; omega
  have hv_w5b_w0 : ∀ n : Nat, w.heap.size ≤ w5b.heap.size + n := by intro n; omega
  have ho1g := own_below ho1e hb_w5b (Nat.le_refl _)
  have hm5b := own_below hm5 hb_w5b (Nat.le_refl _)
  go_wp2_with fail
  apply Calls.mono
  · with_reducible exact touchingI_any _ _ _ _
  rintro _ w6 ⟨v6, rfl, ho6, hb_w6⟩
  have ho1f := own_below ho1g hb_w6 (Nat.le_refl _)
  have hm6 := own_below hm5b hb_w6 (Nat.le_refl _)
  have s6 := hb_w6.size
  go_wp2_with fail
  apply Calls.mono
  · with_reducible exact eqFractionS_any _ _ _ _ _ _ _ (Rd.of_own ho6) (Rd.of_own ho1f) true (by simp)
  rintro _ w7 ⟨rfl, hb_w7⟩
  have hm7 := own_below hm6 hb_w7 (Nat.le_refl _)
  have s7 := hb_w7.size
  go_wp2_with fail
  apply Calls.mono
  · with_reducible exact heldFractionS_any _ _ 1 _ _ (Rd.of_own hm7) (by omega) (by omega) (by omega)
  rintro _ w8 ⟨rfl, hb_w8⟩
  have s8 := hb_w8.size
  clear ho1 ho2 ho1x ho1b ho1c ho1d ho1e ho1f ho1g ho2c ho6 hm4 hm5 hm5b hm6 hm7 hg4 hap
  go_wp2
  go_ret
  refine ⟨by first | rfl | (simp), ?_⟩
  repeat' (first | (with_reducible exact Below.refl _ _) | (with_reducible assumption) | (with_reducible refine Below.alloc ?_ ?_ _) | (with_reducible refine Below.drew ?_) | (with_reducible refine bdrewN ?_ _) | (with_reducible refine Below.setCell ?_ ?_ _) | (with_reducible refine bthen ?_ (by assumption) ?_) | go_size)
set_option maxRecDepth 100000 in
theorem lifted_FnExactTouchingCircles (os : Os) (started : os.Started) (H : Type) (enc : TypeId × Value → H) :
    ReturnsInHanded {} Try.checked os 13 .any (Rows.fnExactTouchingCirclesSpec.pre6 enc Try.prog Try.f13 Rows.fnExactTouchingCirclesRow.domain false) (Rows.fnExactTouchingCirclesSpec.post enc Try.prog Try.f13 false true false false) := by
  refine returnsInHanded_of_change (C := Try.checked) own started (by kernel_rfl) Try.func13
    (ChangeSpec.witness6 (enc := enc) (C := Try.checked) false ⟨#[], #[.int .i64 0, .agg #[.int .i64 0, .int .i64 0]], []⟩ 8 (by kernel_rfl) (by kernel_rfl) (by kernel_rfl) (by kernel_rfl)) ?_
  intro W base args ds gs before hval0 hW hcnd _
  have hval : ∀ (j : Nat) t v, Try.f13.params[j]? = some t → args[j]? = some v → Value.okWide Try.prog W .any base t v := hval0
  have hW' := hW
  obtain ⟨p, q, hA0, hV, rfl, hfz, hnd⟩ := hW
  have hA : DataW.TrodAll enc Try.prog W 0 (fun _ => true) true Try.f13.params.toList args.toList ds p := hA0
  rw [Try.params13] at hA hval
  obtain ⟨v0, vs0, d0, ds0, p0, q0, hargs, rfl, rfl, h0, r0⟩ := trodAll_cons hA
  obtain ⟨v1, vs1, d1, ds1, p1, q1, rfl, rfl, rfl, h1, r1⟩ := trodAll_cons r0
  obtain ⟨rfl, rfl, rfl⟩ := trodAll_nil r1
  obtain rfl : args = #[v0, v1] := by cases args; simp_all
  obtain ⟨rfl, rfl⟩ := trodVars_none hV
  have k0 := h0
  have lt0 : ∀ x ∈ p0, x.block < W.heap.size := by obtain ⟨m, hm⟩ := k0; exact DataW.trod_lt m _ _ _ hm
  obtain ⟨a0, rfl, rfl, rfl, wf0⟩ := open_int Try.underlying2 (hval 0 2 v0 rfl rfl) h0
  have k1 := h1
  have lt1 : ∀ x ∈ p1, x.block < W.heap.size := by obtain ⟨m, hm⟩ := k1; exact DataW.trod_lt m _ _ _ hm
  obtain ⟨c1_0, c1_1, y1_0, y1_1, m1, rfl, rfl, rfl, g1_0, g1_1⟩ := open_agg2 Try.underlying35 (by kernel_rfl) (by kernel_rfl) (hval 1 35 v1 rfl rfl) h1
  obtain ⟨a1_0, e1_0, rfl, wf1_0⟩ := DataW.trod_int Try.underlying2 g1_0
  obtain ⟨a1_1, e1_1, rfl, wf1_1⟩ := DataW.trod_int Try.underlying2 g1_1
  simp at e1_0 e1_1
  subst e1_0 e1_1
  clear hA0 hval0
  refine (walk_FnExactTouchingCircles a0 wf0 a1_0 a1_1 wf1_0 wf1_1 W).mono fun e W' ⟨he, bel⟩ => ?_
  subst he
  exact ⟨_, rfl, _, _, _, [], _, [], hW', trodAll_mk1 (shut_bool Try.underlying4 _), (trodAll_cons_mk (Below.trod laidOut (by kernel_rfl) (of_decide_eq_true (by kernel_rfl)) k0 bel lt0) (trodAll_cons_mk (Below.trod laidOut (by kernel_rfl) (of_decide_eq_true (by kernel_rfl)) k1 bel lt1) trodAll_mk0)), rfl, bel.frame _, fun h => by cases h⟩
theorem over_FnExactTouchingCircles : Rows.fnExactTouchingCirclesRow.holds Try.pinned (OpenSpec.ofChange Rows.fnExactTouchingCirclesSpec) :=
  OpenClaim.holds_of_wide 13 Try.f13 rfl rfl rfl rfl rfl rfl rfl ⟨rfl, rfl, rfl, rfl, rfl⟩ rfl rfl rfl rfl rfl (by kernel_rfl) Try.func13 (by kernel_rfl)
    (of_decide_eq_true (by kernel_rfl)) (by unfold Func.isWrapper; first | (rw [if_pos (by decide +kernel)]; kernel_rfl) | (rw [if_neg (by decide +kernel)]; exact ⟨rfl, rfl⟩))
    (fun os started H enc _ => lifted_FnExactTouchingCircles os started H enc)
/-- The statement. -/
theorem holds_FnExactTouchingCircles : Rows.FnExactTouchingCirclesSaid := over_FnExactTouchingCircles
#print axioms holds_FnExactTouchingCircles

end Go.Proofs.Ytjcjcligeiddlaa
