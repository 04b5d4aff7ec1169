/-
  For all arguments the program's FareySequence returns what the reference's returns. Conditions: none.
-/
import Derived.Test.YtjcjcligeiddlaaFarey2
import Derived.Test.YtjcjcligeiddlaaLaw
namespace Go.Proofs.Ytjcjcligeiddlaa
open Go.ChangeShapes Go.WideShapes Go.ChangeAt Go.RowKit Go.Joins
open Go.ChangeMaps (open_string shut_string)
set_option linter.unusedVariables false

theorem walk_FnExactFareySequence (N : Int) (hn : (Lit.int .i64 N).wf = true) (w : World) :
    Calls Try.prog 9 #[.int .i64 N] w (Ret w (.bool true)) := by
  clear hn
  have hlen : (seqM N).1.length ≤ 600 := by
    unfold seqM
    split
    · rename_i h; obtain ⟨b1, b2⟩ := inB_iff.1 h; exact (farL_len b1 b2).2
    · simp
  go_enter Try.func9, Try.ntmps9
  go_wp2_with fail
  apply Calls.mono
  · with_reducible exact fareySequenceS_any N _
  rintro _ w1 ⟨v1, rfl, ho1, hb_w1⟩
  go_wp2_with fail
  apply Calls.mono
  · with_reducible exact fareySequenceI_any N _
  rintro _ w2 ⟨v2, rfl, ho2, hb_w2⟩
  have hap := own_apart ho1 ho2 (Nat.le_refl _)
  have ho1b := own_below ho1 hb_w2 (Nat.le_refl _)
  go_wp2_with fail
  apply Calls.mono
  · with_reducible exact eqFractionS_any _ _ _ _ _ _ _ (Rd.of_own ho2) (Rd.of_own ho1b) true (by simp)
  rintro _ w3 ⟨rfl, hb_w3⟩
  have ho1c := own_below ho1b hb_w3 (Nat.le_refl _)
  have ho2c := own_below ho2 hb_w3 (Nat.le_refl _)
  have s1 := hb_w1.size
  have s2 := hb_w2.size
  have s3 := hb_w3.size
  go_wp2_with fail
  apply Calls.mono
  · with_reducible exact markFractionS_any _ _ _ 1 _ _ ho2c (by omega) (by omega) (by omega)
  rintro _ w4 ⟨rfl, hm4, hg4⟩
  have ho1d := ho1c.kept hg4 hap
  have hb_w4 := grown_below ho2c hg4 (B := w1.heap.size) (Nat.le_refl _) (by omega)
  have s4 := hb_w4.size
  go_wp2_with fail
  apply Calls.mono
  · with_reducible exact heldFractionS_any _ _ 1 _ _ (Rd.of_own hm4) (by omega) (by omega) (by omega)
  rintro _ w5 ⟨rfl, hb_w5⟩
  have ho1e := own_below ho1d hb_w5 (Nat.le_refl _)
  have hm5 := own_below hm4 hb_w5 (Nat.le_refl _)
  have s5 := hb_w5.size
  go_wp2_with fail
  apply Calls.mono
  · with_reducible exact fareySequenceI_any N _
  rintro _ w6 ⟨v6, rfl, ho6, hb_w6⟩
  have ho1f := own_below ho1e hb_w6 (Nat.le_refl _)
  have hm6 := own_below hm5 hb_w6 (Nat.le_refl _)
  have s6 := hb_w6.size
  go_wp2_with fail
  apply Calls.mono
  · with_reducible exact eqFractionS_any _ _ _ _ _ _ _ (Rd.of_own ho6) (Rd.of_own ho1f) true (by simp)
  rintro _ w7 ⟨rfl, hb_w7⟩
  have hm7 := own_below hm6 hb_w7 (Nat.le_refl _)
  have s7 := hb_w7.size
  go_wp2_with fail
  apply Calls.mono
  · with_reducible exact heldFractionS_any _ _ 1 _ _ (Rd.of_own hm7) (by omega) (by omega) (by omega)
  rintro _ w8 ⟨rfl, hb_w8⟩
  have s8 := hb_w8.size
  clear ho1 ho2 ho1b ho1c ho1d ho1e ho1f ho2c ho6 hm4 hm5 hm6 hm7 hg4 hap
  go_wp2
  go_ret
  refine ⟨by first | rfl | (simp), ?_⟩
  repeat' (first | (with_reducible exact Below.refl _ _) | (with_reducible assumption) | (with_reducible refine Below.alloc ?_ ?_ _) | (with_reducible refine Below.drew ?_) | (with_reducible refine bdrewN ?_ _) | (with_reducible refine Below.setCell ?_ ?_ _) | (with_reducible refine bthen ?_ (by assumption) ?_) | go_size)
set_option maxRecDepth 100000 in
theorem lifted_FnExactFareySequence (os : Os) (started : os.Started) (H : Type) (enc : TypeId × Value → H) :
    ReturnsInHanded {} Try.checked os 9 .any (Rows.fnExactFareySequenceSpec.pre6 enc Try.prog Try.f9 Rows.fnExactFareySequenceRow.domain false) (Rows.fnExactFareySequenceSpec.post enc Try.prog Try.f9 false true false false) := by
  refine returnsInHanded_of_change (C := Try.checked) own started (by kernel_rfl) Try.func9
    (ChangeSpec.witness6 (enc := enc) (C := Try.checked) false ⟨#[], #[.int .i64 0], []⟩ 8 (by kernel_rfl) (by kernel_rfl) (by kernel_rfl) (by kernel_rfl)) ?_
  intro W base args ds gs before hval0 hW hcnd _
  have hval : ∀ (j : Nat) t v, Try.f9.params[j]? = some t → args[j]? = some v → Value.okWide Try.prog W .any base t v := hval0
  have hW' := hW
  obtain ⟨p, q, hA0, hV, rfl, hfz, hnd⟩ := hW
  have hA : DataW.TrodAll enc Try.prog W 0 (fun _ => true) true Try.f9.params.toList args.toList ds p := hA0
  rw [Try.params9] at hA hval
  obtain ⟨v0, vs0, d0, ds0, p0, q0, hargs, rfl, rfl, h0, r0⟩ := trodAll_cons hA
  obtain ⟨rfl, rfl, rfl⟩ := trodAll_nil r0
  obtain rfl : args = #[v0] := by cases args; simp_all
  obtain ⟨rfl, rfl⟩ := trodVars_none hV
  have k0 := h0
  have lt0 : ∀ x ∈ p0, x.block < W.heap.size := by obtain ⟨m, hm⟩ := k0; exact DataW.trod_lt m _ _ _ hm
  obtain ⟨a0, rfl, rfl, rfl, wf0⟩ := open_int Try.underlying2 (hval 0 2 v0 rfl rfl) h0
  clear hA0 hval0
  refine (walk_FnExactFareySequence a0 wf0 W).mono fun e W' ⟨he, bel⟩ => ?_
  subst he
  exact ⟨_, rfl, _, _, _, [], _, [], hW', trodAll_mk1 (shut_bool Try.underlying4 _), (trodAll_cons_mk (Below.trod laidOut (by kernel_rfl) (of_decide_eq_true (by kernel_rfl)) k0 bel lt0) trodAll_mk0), rfl, bel.frame _, fun h => by cases h⟩
theorem over_FnExactFareySequence : Rows.fnExactFareySequenceRow.holds Try.pinned (OpenSpec.ofChange Rows.fnExactFareySequenceSpec) :=
  OpenClaim.holds_of_wide 9 Try.f9 rfl rfl rfl rfl rfl rfl rfl ⟨rfl, rfl, rfl, rfl, rfl⟩ rfl rfl rfl rfl rfl (by kernel_rfl) Try.func9 (by kernel_rfl)
    (of_decide_eq_true (by kernel_rfl)) (by unfold Func.isWrapper; first | (rw [if_pos (by decide +kernel)]; kernel_rfl) | (rw [if_neg (by decide +kernel)]; exact ⟨rfl, rfl⟩))
    (fun os started H enc _ => lifted_FnExactFareySequence os started H enc)
/-- The statement. -/
theorem holds_FnExactFareySequence : Rows.FnExactFareySequenceSaid := over_FnExactFareySequence
#print axioms holds_FnExactFareySequence

end Go.Proofs.Ytjcjcligeiddlaa
