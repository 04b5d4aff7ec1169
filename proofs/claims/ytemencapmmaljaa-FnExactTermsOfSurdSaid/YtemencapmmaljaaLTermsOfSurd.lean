/-
  For all arguments the program's TermsOfSurd returns what the reference's returns. Conditions: none.
-/
import Derived.Test.YtemencapmmaljaaTs
import Derived.Test.YtemencapmmaljaaRow
import Derived.Test.YtemencapmmaljaaLaw
namespace Go.Proofs.Ytemencapmmaljaa
open Go.ChangeShapes Go.WideShapes Go.ChangeAt Go.RowKit Go.Joins
open Go.ChangeMaps (open_string shut_string)
set_option linter.unusedVariables false


theorem walk_FnExactTermsOfSurd (p d q : Int) (wp : (Lit.int .i64 p).wf = true) (wd : (Lit.int .i64 d).wf = true) (wq : (Lit.int .i64 q).wf = true) (n : Int) (wn : (Lit.int .i64 n).wf = true) (w : World) :
    Calls Try.prog 3 #[.agg #[.int .i64 p, .int .i64 d, .int .i64 q], .int .i64 n] w (Ret w (.bool true)) := by
  clear wp wd wq wn
  have kS := fun w => termsS_any p d q n w
  have kI := fun w => termsI_any p d q n w
  have sm := ts_small p d q n
  unfold TsP at kS kI
  generalize tsM p d q n = M at *
  obtain ⟨xs, c⟩ := M
  simp only at kS kI sm
  generalize hxl : xs.length = nx at *
  clear hxl
  go_enter Try.func3, Try.ntmps3
  go_wp2_with fail
  apply Calls.mono
  · with_reducible exact toSurd_any _ _ _ _
  rintro _ w1 ⟨rfl, hb_w1⟩
  obtain ⟨hc_w1, hf_w1, hs_w1⟩ := bcell hb_w1
  try simp at hs_w1
  have hz_w1_w0 : w.heap.size < w1.heap.size := by omega
  have hy_w1_w0 : w.heap.size ≤ w1.heap.size := by omega
  have hx_w1_w0 : ∀ n : Nat, w.heap.size < w1.heap.size + n := by intro n; omega
  have hv_w1_w0 : ∀ n : Nat, w.heap.size ≤ w1.heap.size + n := by intro n; omega
  have q_w1 := hb_w1.size
  go_wp2_with fail
  apply Calls.mono
  · with_reducible exact kS _
  rintro _ w2 ⟨a0, rfl, ha0, hb_w2⟩
  obtain ⟨hc_w2, hf_w2, hs_w2⟩ := bcell hb_w2
  try simp at hs_w2
  have hz_w2_w0 : w.heap.size < w2.heap.size := by omega
  have hy_w2_w0 : w.heap.size ≤ w2.heap.size := by omega
  have hx_w2_w0 : ∀ n : Nat, w.heap.size < w2.heap.size + n := by intro n; omega
  have hv_w2_w0 : ∀ n : Nat, w.heap.size ≤ w2.heap.size + n := by intro n; omega
  have q_w2 := hb_w2.size
  go_wp2_with fail
  apply Calls.mono
  · with_reducible exact toSurd_any _ _ _ _
  rintro _ w3 ⟨rfl, hb_w3⟩
  have ra0_w3 := own_below ha0 hb_w3 (Nat.le_refl _)
  obtain ⟨hc_w3, hf_w3, hs_w3⟩ := bcell hb_w3
  try simp at hs_w3
  have hz_w3_w0 : w.heap.size < w3.heap.size := by omega
  have hy_w3_w0 : w.heap.size ≤ w3.heap.size := by omega
  have hx_w3_w0 : ∀ n : Nat, w.heap.size < w3.heap.size + n := by intro n; omega
  have hv_w3_w0 : ∀ n : Nat, w.heap.size ≤ w3.heap.size + n := by intro n; omega
  have q_w3 := hb_w3.size
  go_wp2_with fail
  apply Calls.mono
  · with_reducible exact kI _
  rintro _ w4 ⟨g0, rfl, hg0, hb_w4⟩
  have ra0_w4 := own_below ra0_w3 hb_w4 (Nat.le_refl _)
  obtain ⟨hc_w4, hf_w4, hs_w4⟩ := bcell hb_w4
  try simp at hs_w4
  have hz_w4_w0 : w.heap.size < w4.heap.size := by omega
  have hy_w4_w0 : w.heap.size ≤ w4.heap.size := by omega
  have hx_w4_w0 : ∀ n : Nat, w.heap.size < w4.heap.size + n := by intro n; omega
  have hv_w4_w0 : ∀ n : Nat, w.heap.size ≤ w4.heap.size + n := by intro n; omega
  have q_w4 := hb_w4.size
  have ap_a0_g0 := own_apart ra0_w3 hg0 (Nat.le_refl _)
  go_wp2_with fail
  apply Calls.mono
  · with_reducible exact eqInt64S_any _ _ _ _ _ _ _ (Rd.of_own hg0) (Rd.of_own ra0_w4) true (by simp)
  rintro _ w5 ⟨rfl, hb_w5⟩
  have ra0_w5 := own_below ra0_w4 hb_w5 (Nat.le_refl _)
  have rg0_w5 := own_below hg0 hb_w5 (Nat.le_refl _)
  obtain ⟨hc_w5, hf_w5, hs_w5⟩ := bcell hb_w5
  try simp at hs_w5
  have hz_w5_w0 : w.heap.size < w5.heap.size := by omega
  have hy_w5_w0 : w.heap.size ≤ w5.heap.size := by omega
  have hx_w5_w0 : ∀ n : Nat, w.heap.size < w5.heap.size + n := by intro n; omega
  have hv_w5_w0 : ∀ n : Nat, w.heap.size ≤ w5.heap.size + n := by intro n; omega
  have q_w5 := hb_w5.size
  go_wp2_with fail
  apply Calls.mono
  · with_reducible exact markInt64S_any _ _ _ _ _ _ rg0_w5 (by first | omega | (simp; omega)) (by first | omega | (simp; omega)) (by first | omega | (simp; omega))
  rintro _ w6 ⟨rfl, hm0, hgr0⟩
  have hb_w6 := grown_below rg0_w5 hgr0 (Nat.le_refl _) (by omega)
  have ra0_w6 := ra0_w5.kept hgr0 ap_a0_g0
  have rg0_w6 := hm0
  obtain ⟨hc_w6, hf_w6, hs_w6⟩ := bcell hb_w6
  try simp at hs_w6
  have hz_w6_w0 : w.heap.size < w6.heap.size := by omega
  have hy_w6_w0 : w.heap.size ≤ w6.heap.size := by omega
  have hx_w6_w0 : ∀ n : Nat, w.heap.size < w6.heap.size + n := by intro n; omega
  have hv_w6_w0 : ∀ n : Nat, w.heap.size ≤ w6.heap.size + n := by intro n; omega
  have q_w6 := hgr0.size
  go_wp2_with fail
  apply Calls.mono
  · with_reducible exact heldInt64S_any _ _ _ _ _ (Rd.of_own rg0_w6) (by first | omega | (simp; omega)) (by first | omega | (simp; omega)) (by first | omega | (simp; omega))
  rintro _ w7 ⟨rfl, hb_w7⟩
  have ra0_w7 := own_below ra0_w6 hb_w7 (Nat.le_refl _)
  have rg0_w7 := own_below rg0_w6 hb_w7 (Nat.le_refl _)
  obtain ⟨hc_w7, hf_w7, hs_w7⟩ := bcell hb_w7
  try simp at hs_w7
  have hz_w7_w0 : w.heap.size < w7.heap.size := by omega
  have hy_w7_w0 : w.heap.size ≤ w7.heap.size := by omega
  have hx_w7_w0 : ∀ n : Nat, w.heap.size < w7.heap.size + n := by intro n; omega
  have hv_w7_w0 : ∀ n : Nat, w.heap.size ≤ w7.heap.size + n := by intro n; omega
  have q_w7 := hb_w7.size
  go_wp2_with fail
  apply Calls.mono
  · with_reducible exact toSurd_any _ _ _ _
  rintro _ w8 ⟨rfl, hb_w8⟩
  have ra0_w8 := own_below ra0_w7 hb_w8 (Nat.le_refl _)
  have rg0_w8 := own_below rg0_w7 hb_w8 (Nat.le_refl _)
  obtain ⟨hc_w8, hf_w8, hs_w8⟩ := bcell hb_w8
  try simp at hs_w8
  have hz_w8_w0 : w.heap.size < w8.heap.size := by omega
  have hy_w8_w0 : w.heap.size ≤ w8.heap.size := by omega
  have hx_w8_w0 : ∀ n : Nat, w.heap.size < w8.heap.size + n := by intro n; omega
  have hv_w8_w0 : ∀ n : Nat, w.heap.size ≤ w8.heap.size + n := by intro n; omega
  have q_w8 := hb_w8.size
  go_wp2_with fail
  apply Calls.mono
  · with_reducible exact kI _
  rintro _ w9 ⟨h0, rfl, hh0, hb_w9⟩
  have ra0_w9 := own_below ra0_w8 hb_w9 (Nat.le_refl _)
  have rg0_w9 := own_below rg0_w8 hb_w9 (Nat.le_refl _)
  obtain ⟨hc_w9, hf_w9, hs_w9⟩ := bcell hb_w9
  try simp at hs_w9
  have hz_w9_w0 : w.heap.size < w9.heap.size := by omega
  have hy_w9_w0 : w.heap.size ≤ w9.heap.size := by omega
  have hx_w9_w0 : ∀ n : Nat, w.heap.size < w9.heap.size + n := by intro n; omega
  have hv_w9_w0 : ∀ n : Nat, w.heap.size ≤ w9.heap.size + n := by intro n; omega
  have q_w9 := hb_w9.size
  go_wp2_with fail
  apply Calls.mono
  · with_reducible exact eqInt64S_any _ _ _ _ _ _ _ (Rd.of_own hh0) (Rd.of_own ra0_w9) true (by simp)
  rintro _ w10 ⟨rfl, hb_w10⟩
  have ra0_w10 := own_below ra0_w9 hb_w10 (Nat.le_refl _)
  have rg0_w10 := own_below rg0_w9 hb_w10 (Nat.le_refl _)
  have rh0_w10 := own_below hh0 hb_w10 (Nat.le_refl _)
  obtain ⟨hc_w10, hf_w10, hs_w10⟩ := bcell hb_w10
  try simp at hs_w10
  have hz_w10_w0 : w.heap.size < w10.heap.size := by omega
  have hy_w10_w0 : w.heap.size ≤ w10.heap.size := by omega
  have hx_w10_w0 : ∀ n : Nat, w.heap.size < w10.heap.size + n := by intro n; omega
  have hv_w10_w0 : ∀ n : Nat, w.heap.size ≤ w10.heap.size + n := by intro n; omega
  have q_w10 := hb_w10.size
  go_wp2_with fail
  apply Calls.mono
  · with_reducible exact heldInt64S_any _ _ _ _ _ (Rd.of_own rg0_w10) (by first | omega | (simp; omega)) (by first | omega | (simp; omega)) (by first | omega | (simp; omega))
  rintro _ w11 ⟨rfl, hb_w11⟩
  have ra0_w11 := own_below ra0_w10 hb_w11 (Nat.le_refl _)
  have rg0_w11 := own_below rg0_w10 hb_w11 (Nat.le_refl _)
  have rh0_w11 := own_below rh0_w10 hb_w11 (Nat.le_refl _)
  obtain ⟨hc_w11, hf_w11, hs_w11⟩ := bcell hb_w11
  try simp at hs_w11
  have hz_w11_w0 : w.heap.size < w11.heap.size := by omega
  have hy_w11_w0 : w.heap.size ≤ w11.heap.size := by omega
  have hx_w11_w0 : ∀ n : Nat, w.heap.size < w11.heap.size + n := by intro n; omega
  have hv_w11_w0 : ∀ n : Nat, w.heap.size ≤ w11.heap.size + n := by intro n; omega
  have q_w11 := hb_w11.size
  clear ra0_w11 rg0_w11 rh0_w11
  go_wp2
  go_ret
  refine ⟨by first | rfl | (simp), ?_⟩
  repeat' (first | (with_reducible exact Below.refl _ _) | (with_reducible assumption) | (with_reducible refine Below.alloc ?_ ?_ _) | (with_reducible refine Below.drew ?_) | (with_reducible refine bdrewN ?_ _) | (with_reducible refine Below.setCell ?_ ?_ _) | (with_reducible refine bthen ?_ (by assumption) ?_) | go_size)
set_option maxRecDepth 100000 in
theorem lifted_FnExactTermsOfSurd (os : Os) (started : os.Started) (H : Type) (enc : TypeId × Value → H) :
    ReturnsInHanded {} Try.checked os 3 .any (Rows.fnExactTermsOfSurdSpec.pre6 enc Try.prog Try.f3 Rows.fnExactTermsOfSurdRow.domain false) (Rows.fnExactTermsOfSurdSpec.post enc Try.prog Try.f3 false true false false) := by
  refine returnsInHanded_of_change (C := Try.checked) own started (by kernel_rfl) Try.func3
    (ChangeSpec.witness6 (enc := enc) (C := Try.checked) false ⟨#[], #[.agg #[.int .i64 0, .int .i64 0, .int .i64 0], .int .i64 0], []⟩ 8 (by kernel_rfl) (by kernel_rfl) (by kernel_rfl) (by kernel_rfl)) ?_
  intro W base args ds gs before hval0 hW hcnd _
  have hval : ∀ (j : Nat) t v, Try.f3.params[j]? = some t → args[j]? = some v → Value.okWide Try.prog W .any base t v := hval0
  have hW' := hW
  obtain ⟨p, q, hA0, hV, rfl, hfz, hnd⟩ := hW
  have hA : DataW.TrodAll enc Try.prog W 0 (fun _ => true) true Try.f3.params.toList args.toList ds p := hA0
  rw [Try.params3] at hA hval
  obtain ⟨v0, vs0, d0, ds0, p0, q0, hargs, rfl, rfl, h0, r0⟩ := trodAll_cons hA
  obtain ⟨v1, vs1, d1, ds1, p1, q1, rfl, rfl, rfl, h1, r1⟩ := trodAll_cons r0
  obtain ⟨rfl, rfl, rfl⟩ := trodAll_nil r1
  obtain rfl : args = #[v0, v1] := by cases args; simp_all
  obtain ⟨rfl, rfl⟩ := trodVars_none hV
  have k0 := h0
  have lt0 : ∀ x ∈ p0, x.block < W.heap.size := by obtain ⟨m, hm⟩ := k0; exact DataW.trod_lt m _ _ _ hm
  obtain ⟨c0_0, c0_1, c0_2, y0_0, y0_1, y0_2, m0, rfl, rfl, rfl, g0_0, g0_1, g0_2⟩ := open_agg3 Try.underlying23 (by kernel_rfl) (by kernel_rfl) (hval 0 23 v0 rfl rfl) h0
  obtain ⟨a0_0, e0_0, rfl, wf0_0⟩ := DataW.trod_int Try.underlying2 g0_0
  obtain ⟨a0_1, e0_1, rfl, wf0_1⟩ := DataW.trod_int Try.underlying2 g0_1
  obtain ⟨a0_2, e0_2, rfl, wf0_2⟩ := DataW.trod_int Try.underlying2 g0_2
  simp at e0_0 e0_1 e0_2
  subst e0_0 e0_1 e0_2
  have k1 := h1
  have lt1 : ∀ x ∈ p1, x.block < W.heap.size := by obtain ⟨m, hm⟩ := k1; exact DataW.trod_lt m _ _ _ hm
  obtain ⟨a1, rfl, rfl, rfl, wf1⟩ := open_int Try.underlying2 (hval 1 2 v1 rfl rfl) h1
  clear hA0 hval0
  refine (walk_FnExactTermsOfSurd a0_0 a0_1 a0_2 wf0_0 wf0_1 wf0_2 a1 wf1 W).mono fun e W' ⟨he, bel⟩ => ?_
  subst he
  exact ⟨_, rfl, _, _, _, [], _, [], hW', trodAll_mk1 (shut_bool Try.underlying4 _), (trodAll_cons_mk (Below.trod laidOut (by kernel_rfl) (of_decide_eq_true (by kernel_rfl)) k0 bel lt0) (trodAll_cons_mk (Below.trod laidOut (by kernel_rfl) (of_decide_eq_true (by kernel_rfl)) k1 bel lt1) trodAll_mk0)), rfl, bel.frame _, fun h => by cases h⟩
theorem over_FnExactTermsOfSurd : Rows.fnExactTermsOfSurdRow.holds Try.pinned (OpenSpec.ofChange Rows.fnExactTermsOfSurdSpec) :=
  OpenClaim.holds_of_wide 3 Try.f3 rfl rfl rfl rfl rfl rfl rfl ⟨rfl, rfl, rfl, rfl, rfl⟩ rfl rfl rfl rfl rfl (by kernel_rfl) Try.func3 (by kernel_rfl)
    (of_decide_eq_true (by kernel_rfl)) (by unfold Func.isWrapper; first | (rw [if_pos (by decide +kernel)]; kernel_rfl) | (rw [if_neg (by decide +kernel)]; exact ⟨rfl, rfl⟩))
    (fun os started H enc _ => lifted_FnExactTermsOfSurd os started H enc)
/-- The statement. -/
theorem holds_FnExactTermsOfSurd : Rows.FnExactTermsOfSurdSaid := over_FnExactTermsOfSurd
#print axioms holds_FnExactTermsOfSurd

end Go.Proofs.Ytemencapmmaljaa
