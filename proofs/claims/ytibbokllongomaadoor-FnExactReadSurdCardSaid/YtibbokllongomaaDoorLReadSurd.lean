/-
  For all arguments the program's ReadSurd returns what the reference's returns. Conditions: none.
-/
import Derived.Test.YtibbokllongomaaDoorRss
import Derived.Test.YtibbokllongomaaDoorCardR
import Derived.ShutString
namespace Go.Proofs.YtibbokllongomaaDoor
open Go.ChangeShapes Go.WideShapes Go.ChangeAt Go.RowKit Go.Joins
open Go.ChangeMaps (open_string shut_string)
set_option linter.unusedVariables false

set_option maxHeartbeats 4000000 in
theorem walk_FnExactReadSurd (s : ByteArray) (hs : s.size ≤ maxLen) (w : World) (hw : Rw w) :
    Calls Tryd.prog 7 #[.string s] w (Ret w (.bool true)) := by
  by_cases hl : s.size ≤ 1048576
  · have hl' : ¬ ((s.size : Int) > 1048576) := by omega
    have kS := fun w => readSurdS_any s hl w
    have kI := fun w h => readSurdI_any s hl w h
    rw [iM_sM] at kI
    unfold rsV at kS kI
    generalize sM s.data.toList = R at *
    generalize (R.getD (0, 0, 0)).1 = p at *
    generalize (R.getD (0, 0, 0)).2.1 = d at *
    generalize (R.getD (0, 0, 0)).2.2 = q at *
    generalize R.isSome = b at *
    go_enter Tryd.func7, Tryd.ntmps7
    go_wp2_with fail
    apply Calls.mono
    · with_reducible exact kS _
    rintro _ w1 ⟨rfl, h1⟩
    have V1 := h1.alloc h1.size (.cells #[.int .i64 p, .int .i64 d, .int .i64 q] 28)
    have B1 := Blk.new w1 28 #[.int .i64 p, .int .i64 d, .int .i64 q]
    have hw1 := hw.below V1
    go_wp2_with fail
    apply Calls.mono
    · with_reducible exact kI _ hw1
    rintro _ w2 ⟨rfl, h2⟩
    have V2 := bthen V1 h2 V1.size
    have V3 := V2.alloc V2.size (.cells #[.int .i64 p, .int .i64 d, .int .i64 q] 28)
    have B3 := (B1.below h2 B1.lt).alloc (.cells #[.int .i64 p, .int .i64 d, .int .i64 q] 28)
    have C3 := Blk.new w2 28 #[.int .i64 p, .int .i64 d, .int .i64 q]
    have a0 := B3.cell 0
    have a1 := B3.cell 1
    have a2 := B3.cell 2
    have az := B3.lt
    have b0 := C3.cell 0
    have b1 := C3.cell 1
    have b2 := C3.cell 2
    have bz := C3.lt
    clear V1 h2 V2 h1 B1 B3 C3
    go_wp2_with fail
    apply Calls.mono
    · with_reducible exact eqSurd_same p d q _
    rintro _ w4 ⟨rfl, h4⟩
    have V4 := bthen V3 h4 V3.size
    clear V3 h4 a0 a1 a2 az b0 b1 b2 bz
    go_wp2
    go_ret
    refine ⟨by first | rfl | (simp), ?_⟩
    repeat' (first | (with_reducible exact Below.refl _ _) | (with_reducible assumption) | (with_reducible refine Below.alloc ?_ ?_ _) | (with_reducible refine Below.drew ?_) | (with_reducible refine bdrewN ?_ _) | (with_reducible refine Below.setCell ?_ ?_ _) | (with_reducible refine bthen ?_ (by assumption) ?_) | go_size)
  · have hl' : (s.size : Int) > 1048576 := by omega
    go_enter Tryd.func7, Tryd.ntmps7
    go_wp2
    go_ret
    refine ⟨by first | rfl | (simp), ?_⟩
    repeat' (first | (with_reducible exact Below.refl _ _) | (with_reducible assumption) | (with_reducible refine Below.alloc ?_ ?_ _) | (with_reducible refine Below.drew ?_) | (with_reducible refine bdrewN ?_ _) | (with_reducible refine Below.setCell ?_ ?_ _) | (with_reducible refine bthen ?_ (by assumption) ?_) | go_size)
set_option maxRecDepth 100000 in
theorem lifted_FnExactReadSurd (os : Os) (started : os.Started) (H : Type) (enc : TypeId × Value → H) :
    ReturnsInHanded {} Tryd.checked os 7 .any (fun w args => (Rows.fnExactReadSurdSpec.pre enc Tryd.prog Tryd.f7 [] false w args ∧ laidMetH Tryd.prog Rows.fnExactReadSurdRow.laid w) ∧ sizedMet enc Tryd.prog Tryd.f7 (OpenSpec.ofChange Rows.fnExactReadSurdSpec) false w args) (Rows.fnExactReadSurdSpec.post enc Tryd.prog Tryd.f7 false true false false) := by
  refine wrap_both (C := Tryd.checked) (X := fun w _ => laidMetH Tryd.prog Rows.fnExactReadSurdRow.laid w) (fun _ _ _ hh h => h.of_heap hh) own started (by kernel_rfl) Tryd.func7
    (ChangeSpec.witness_shaped (enc := enc) (C := Tryd.checked) (os := os) (X := fun w _ => laidMetH Tryd.prog Rows.fnExactReadSurdRow.laid w) false (World.laidAll Tryd.prog os Rows.fnExactReadSurdRow.laid) #[.string ByteArray.empty] 8 (World.laidAll_os _ _ _)
      (World.shaped_of_ZipB (by kernel_rfl) (by kernel_rfl)) (by kernel_rfl) (by kernel_rfl) (by kernel_rfl)
      (by rw [MakeChecks.laidMetH_plain _ _ _ (by kernel_rfl)]; exact laidMet_laidAll _ (by kernel_rfl) (by kernel_rfl))) ?_
  intro W base args ds gs before hval0 hW _ hL hsh
  have hL0 := hL
  rw [MakeChecks.laidMetH_plain _ _ _ (by kernel_rfl)] at hL0
  have htb : Rw W := rw_of_laid (tb_of_laid hL (by kernel_rfl) (by kernel_rfl)) hL0.tail.tail.tail hsh
  have hval : ∀ (j : Nat) t v, Tryd.f7.params[j]? = some t → args[j]? = some v → Value.okWide Tryd.prog W .any base t v := hval0
  have hW' := hW
  obtain ⟨p, q, hA0, hV, rfl, hfz, hnd⟩ := hW
  have hA : DataW.TrodAll enc Tryd.prog W 0 (fun _ => true) true Tryd.f7.params.toList args.toList ds p := hA0
  rw [Tryd.params7] at hA hval
  obtain ⟨v0, vs0, d0, ds0, p0, q0, hargs, rfl, rfl, h0, r0⟩ := trodAll_cons hA
  obtain ⟨rfl, rfl, rfl⟩ := trodAll_nil r0
  obtain rfl : args = #[v0] := by cases args; simp_all
  obtain ⟨rfl, rfl⟩ := trodVars_none hV
  have k0 := h0
  have lt0 : ∀ x ∈ p0, x.block < W.heap.size := by obtain ⟨m, hm⟩ := k0; exact DataW.trod_lt m _ _ _ hm
  obtain ⟨a0, rfl, rfl, rfl, wf0⟩ := open_string Tryd.underlying9 (hval 0 9 v0 rfl rfl) h0
  clear hA0 hval0
  refine (walk_FnExactReadSurd a0 wf0 W htb).mono fun e W' ⟨he, bel⟩ => ?_
  subst he
  exact ⟨_, rfl, _, _, _, [], _, [], hW', trodAll_mk1 (shut_bool Tryd.underlying4 _), (trodAll_cons_mk (Below.trod laidOut (by kernel_rfl) (of_decide_eq_true (by kernel_rfl)) k0 bel lt0) trodAll_mk0), rfl, bel.frame _, fun h => by cases h⟩
theorem over_FnExactReadSurd : Rows.fnExactReadSurdRow.holds Tryd.pinned (OpenSpec.ofChange Rows.fnExactReadSurdSpec) :=
  OpenClaim.holds_of_wide 7 Tryd.f7 rfl rfl rfl rfl rfl rfl rfl ⟨rfl, rfl, rfl, rfl, rfl⟩ rfl rfl rfl rfl rfl (by kernel_rfl) Tryd.func7 (by kernel_rfl)
    (of_decide_eq_true (by kernel_rfl)) (by unfold Func.isWrapper; first | (rw [if_pos (by decide +kernel)]; kernel_rfl) | (rw [if_neg (by decide +kernel)]; exact ⟨rfl, rfl⟩))
    (fun os started H enc _ => lifted_FnExactReadSurd os started H enc)
/-- The tied card. -/
theorem holds_FnExactReadSurd : Rows.FnExactReadSurdCardSaid :=
  Claim7.holds_tied_plain_at .later [] Rows.fnExactReadSurdCard.laidKinds true Rows.fnExactReadSurdCard.stood.harness true
    over_FnExactReadSurd (fun _ h => by cases h) (by kernel_rfl) (fun _ h => by cases h) fnExactReadSurd_row_tie rfl ⟨rfl, rfl⟩ (by kernel_rfl) (by kernel_rfl)
    (fun f fn hf hfn => by
      obtain rfl : f = 7 := Option.some.inj ((show Tryd.prog.funcNamed Rows.fnExactReadSurdRow.func = some 7 by kernel_rfl).symm.trans hf) |>.symm
      obtain rfl : fn = Tryd.f7 := (Option.some.inj (Tryd.func7.symm.trans hfn)).symm
      refine ⟨by kernel_rfl, fun j t ht => ?_⟩
      have hall : (Tryd.f7.params.toList.all fun u => !Tryd.prog.wantsStandIn u) = true := by kernel_rfl
      have hm : t ∈ Tryd.f7.params.toList := by
        rw [← Array.getElem?_toList] at ht
        exact List.mem_of_getElem? ht
      exact (show Tryd.prog.wantsStandIn t = false by simpa using List.all_eq_true.1 hall t hm))
    (by kernel_rfl)
#print axioms holds_FnExactReadSurd

end Go.Proofs.YtibbokllongomaaDoor
