/-
  For all arguments the program's PathText returns what the reference's returns, and leaves its argument as it was. Conditions: the library's tables hold what its text lays in them (the card ties this to the text).
-/
import Derived.Test.YtlmmpeeacjbobaaDoorPx
import Derived.Test.YtlmmpeeacjbobaaDoorCard
namespace Go.Proofs.YtlmmpeeacjbobaaDoor
open Go.ChangeShapes Go.WideShapes Go.ChangeAt Go.RowKit Go.Joins
open Go.ChangeMaps (open_string shut_string)
set_option linter.unusedVariables false

set_option maxHeartbeats 1000000 in
theorem walk_FnExactPathText (a1 : Option Addr) (len1 cap1 : Nat) (zs1 : List Int) (w : World) (ht : Tb w) (hrow1 : IsRow .i64 w a1 len1 cap1 zs1) :
    Calls Tryd.prog 3 #[.slice a1 len1 cap1] w (Ret w (.bool true)) := by
  obtain ⟨hr1, hl1⟩ := rd_of_row hrow1
  generalize zs1.take len1 = hs at *
  clear hrow1 hl1
  by_cases hb1 : (1048576 : Int) < (len1 : Int)
  · clear hr1
    go_enter Tryd.func3, Tryd.ntmps3
    go_wp2
    go_ret
    refine ⟨by first | rfl | (simp), ?_⟩
    repeat' (first | (with_reducible exact Below.refl _ _) | (with_reducible assumption) | (with_reducible refine Below.alloc ?_ ?_ _) | (with_reducible refine Below.drew ?_) | (with_reducible refine bdrewN ?_ _) | (with_reducible refine Below.setCell ?_ ?_ _) | (with_reducible refine bthen ?_ (by assumption) ?_) | go_size)
  have n1 : len1 ≤ 1048576 := by omega
  have kT1 := fun w' (hb : Below w.heap.size w w') => toInt64S_any _ _ hs w' (hr1.below hb (Nat.le_refl _)) n1
  have kS := fun v1 w' (o1 : Rd w' 1 v1 len1 (ints hs)) => pathTextS_any v1 len1 hs w' o1 n1
  have kI := fun v1 w' (ht : Tb w') (o1 : Rd w' 1 v1 len1 (ints hs)) => pathTextI_any v1 len1 hs w' ht o1 n1
  generalize ptO hs = T at *
  clear hr1
  go_enter Tryd.func3, Tryd.ntmps3
  go_wp2_with fail
  apply Calls.mono
  · with_reducible exact kT1 _ (Below.refl _ _)
  rintro _ w1 ⟨v1, rfl, ho1, hb_w1⟩
  go_wp2_with fail
  apply Calls.mono
  · with_reducible exact kS v1 w1 (Rd.of_own ho1)
  rintro _ w3 ⟨rfl, hb_w3⟩
  have bel3 : Below w.heap.size w w3 := bthen hb_w1 hb_w3 hb_w1.size
  clear ho1 hb_w1 hb_w3
  go_wp2_with fail
  apply Calls.mono
  · with_reducible exact kT1 _ bel3
  rintro _ w4 ⟨v4, rfl, ho4, hb_w4⟩
  have bel4 : Below w.heap.size w w4 := bthen bel3 hb_w4 bel3.size
  have ht4 := ht.below bel4
  go_wp2_with fail
  apply Calls.mono
  · with_reducible exact kI v4 w4 ht4 (Rd.of_own ho4)
  rintro _ w7 ⟨rfl, hb_w7⟩
  have bel7 : Below w.heap.size w w7 := bthen bel4 hb_w7 bel4.size
  have ho47 := own_below ho4 hb_w7 (Nat.le_refl _)
  clear hb_w7 hb_w4 ho4
  go_wp2_with fail
  apply Calls.mono
  · with_reducible exact kT1 _ bel7
  rintro _ w8 ⟨v8, rfl, ho8, hb_w8⟩
  have bel8 : Below w.heap.size w w8 := bthen bel7 hb_w8 bel7.size
  have ho48 := own_below ho47 hb_w8 (Nat.le_refl _)
  go_wp2_with fail
  apply Calls.mono
  · with_reducible exact eqInt64S_any _ _ _ _ hs hs _ (Rd.of_own ho48) (Rd.of_own ho8) true (by simp)
  rintro _ w9 ⟨rfl, hb_w9⟩
  have bel9 : Below w.heap.size w w9 := bthen bel8 hb_w9 bel8.size
  go_wp2
  go_ret
  refine ⟨by first | rfl | (simp), ?_⟩
  repeat' (first | (with_reducible exact Below.refl _ _) | (with_reducible assumption) | (with_reducible refine Below.alloc ?_ ?_ _) | (with_reducible refine Below.drew ?_) | (with_reducible refine bdrewN ?_ _) | (with_reducible refine Below.setCell ?_ ?_ _) | (with_reducible refine bthen ?_ (by assumption) ?_) | go_size)
theorem door_FnExactPathText (os : Os) (args : Array Value) : laidMetH Tryd.prog Rows.fnExactPathTextRow.laid ((World.doorLaid Tryd.prog 72 os).forCall (fun _ _ => 0) ⟨#[], args, []⟩).memory :=
  laidMetH_of_parts3 (fuel := 8) (laidMet_of_run' 8 (by kernel_rfl) (by kernel_rfl)) (by kernel_rfl) (by kernel_rfl)
set_option maxRecDepth 100000 in
theorem lifted_FnExactPathText (os : Os) (started : os.Started) (H : Type) (enc : TypeId × Value → H) :
    ReturnsInHanded {} Tryd.checked os 3 .any (fun w args => (Rows.fnExactPathTextSpec.pre enc Tryd.prog Tryd.f3 [] false w args ∧ laidMetH Tryd.prog Rows.fnExactPathTextRow.laid w) ∧ sizedMet enc Tryd.prog Tryd.f3 (OpenSpec.ofChange Rows.fnExactPathTextSpec) false w args) (Rows.fnExactPathTextSpec.post enc Tryd.prog Tryd.f3 false true false false) := by
  refine returnsInHanded_of_change_and (C := Tryd.checked) (X := fun w _ => laidMetH Tryd.prog Rows.fnExactPathTextRow.laid w) (fun _ _ _ hh h => h.of_heap hh) own started (by kernel_rfl) Tryd.func3
    (ChangeSpec.witness_shaped (enc := enc) (C := Tryd.checked) (os := os) (X := fun w _ => laidMetH Tryd.prog Rows.fnExactPathTextRow.laid w) false (World.doorLaid Tryd.prog 72 os) #[.slice none 0 0] 8 rfl (World.shaped_of_RefB (by kernel_rfl) (by kernel_rfl)) (by kernel_rfl) (by kernel_rfl) (by kernel_rfl) (door_FnExactPathText os _)) ?_
  intro W base args ds gs before hval0 hW _ _ hL _
  have htb : Tb W := tb_of_laid hL (by kernel_rfl) (by kernel_rfl)
  have hval : ∀ (j : Nat) t v, Tryd.f3.params[j]? = some t → args[j]? = some v → Value.okWide Tryd.prog W .any base t v := hval0
  have hW' := hW
  obtain ⟨p, q, hA0, hV, rfl, hfz, hnd⟩ := hW
  have hA : DataW.TrodAll enc Tryd.prog W 0 (fun _ => true) true Tryd.f3.params.toList args.toList ds p := hA0
  rw [Tryd.params3] at hA hval
  obtain ⟨v0, vs0, d0, ds0, p0, q0, hargs, rfl, rfl, h0, r0⟩ := trodAll_cons hA
  obtain ⟨rfl, rfl, rfl⟩ := trodAll_nil r0
  obtain rfl : args = #[v0] := by cases args; simp_all
  obtain ⟨rfl, rfl⟩ := trodVars_none hV
  have k0 := h0
  have lt0 : ∀ x ∈ p0, x.block < W.heap.size := by obtain ⟨m, hm⟩ := k0; exact DataW.trod_lt m _ _ _ hm
  obtain ⟨a0, len0, cap0, rfl⟩ := okWide_slice Tryd.underlying22 (hval 0 22 v0 rfl rfl)
  obtain ⟨z0, ir0⟩ : ∃ zs, IsRow .i64 W a0 len0 cap0 zs := by
    obtain ⟨fuel, hf⟩ := h0
    rcases open_ints Tryd.underlying22 Tryd.underlying2 (by kernel_rfl) hf with ⟨hcs, _⟩ | ⟨x, l, c, zs, hcs, _, hl, hm, hz, _, hcell, hwz⟩
    · simp [Value.cells] at hcs
      obtain ⟨rfl, rfl, rfl⟩ := hcs
      exact ⟨[], .inl ⟨rfl, rfl, rfl, rfl⟩⟩
    · simp [Value.cells] at hcs
      obtain ⟨rfl, rfl, rfl⟩ := hcs
      exact ⟨zs, .inr ⟨_, rfl, hl, hm, by simpa using hz, hcell, hwz⟩⟩
  clear hA0 hval0
  refine (walk_FnExactPathText a0 len0 cap0 z0 W htb ir0).mono fun e W' ⟨he, bel⟩ => ?_
  subst he
  exact ⟨_, rfl, _, _, _, [], _, [], hW', trodAll_mk1 (shut_bool Tryd.underlying4 _), (trodAll_cons_mk (Below.trod laidOut (by kernel_rfl) (of_decide_eq_true (by kernel_rfl)) k0 bel lt0) trodAll_mk0), rfl, bel.frame _, fun h => by cases h⟩
theorem over_FnExactPathText : Rows.fnExactPathTextRow.holds Tryd.pinned (OpenSpec.ofChange Rows.fnExactPathTextSpec) :=
  OpenClaim.holds_of_wide 3 Tryd.f3 rfl rfl rfl rfl rfl rfl rfl ⟨rfl, rfl, rfl, rfl, rfl⟩ rfl rfl rfl rfl rfl (by kernel_rfl) Tryd.func3 (by kernel_rfl)
    (of_decide_eq_true (by kernel_rfl)) (by unfold Func.isWrapper; first | (rw [if_pos (by decide +kernel)]; kernel_rfl) | (rw [if_neg (by decide +kernel)]; exact ⟨rfl, rfl⟩))
    (fun os started H enc _ => lifted_FnExactPathText os started H enc)
/-- The tied card. -/
theorem holds_FnExactPathText : Rows.FnExactPathTextCardSaid :=
  Claim7.holds_tied_plain_at .later [] Rows.fnExactPathTextCard.laidKinds true Rows.fnExactPathTextCard.stood.harness true
    over_FnExactPathText (fun _ h => by cases h) (by kernel_rfl) (fun _ h => by cases h) fnExactPathText_row_tie rfl ⟨rfl, rfl⟩ (by kernel_rfl) (by kernel_rfl)
    (fun f fn hf hfn => by
      obtain rfl : f = 3 := Option.some.inj ((show Tryd.prog.funcNamed Rows.fnExactPathTextRow.func = some 3 by kernel_rfl).symm.trans hf) |>.symm
      obtain rfl : fn = Tryd.f3 := (Option.some.inj (Tryd.func3.symm.trans hfn)).symm
      refine ⟨by kernel_rfl, fun j t ht => ?_⟩
      have hall : (Tryd.f3.params.toList.all fun u => !Tryd.prog.wantsStandIn u) = true := by kernel_rfl
      have hm : t ∈ Tryd.f3.params.toList := by
        rw [← Array.getElem?_toList] at ht
        exact List.mem_of_getElem? ht
      exact (show Tryd.prog.wantsStandIn t = false by simpa using List.all_eq_true.1 hall t hm))
    (by kernel_rfl)
#print axioms holds_FnExactPathText

end Go.Proofs.YtlmmpeeacjbobaaDoor
