/-
  For all arguments the program's FareyLines returns what the reference's returns, in memory of its own. Conditions: the library's tables hold what its text lays in them (the card ties this to the text).
-/
import Derived.Test.YtlmmpeeacjbobaaDoorFls
import Derived.Test.YtlmmpeeacjbobaaDoorMks
import Derived.Test.YtlmmpeeacjbobaaDoorCard
namespace Go.Proofs.YtlmmpeeacjbobaaDoor
open Go.ChangeShapes Go.WideShapes Go.ChangeAt Go.RowKit Go.Joins
open Go.ChangeMaps (open_string shut_string)
set_option linter.unusedVariables false

theorem flM_len (N : Int) : (flM N).1.length ≤ 10 := by
  unfold flM
  split
  · rename_i h
    have := inB_iff.1 h
    simp only [lnL_len]
    omega
  · simp
theorem Tb.grownB {B : Nat} {w w' : World} (h : Tb w) (hb : Below B w w') (hB : w.heap.size ≤ B) : Tb w' := h.below (hb.mono hB)
theorem markS_one (base : Nat) (v : Value) (n : Nat) (xs : List Value) (w : World) (hv : w.ownsRow base 9 1 v n xs) (hn : n ≤ 10) :
    Calls Tryd.prog 14 #[v, .int .i64 1] w (fun e w' => e = .returned (.int .i64 (1 + (n : Int))) ∧ w'.ownsRow base 9 1 v n (mks 1 n xs) ∧ w.grownBy w' v.ownBlock) := by
  have h := markStringS_any base v n 1 xs w hv (by omega) (by omega) (by omega)
  rw [Int.natCast_add] at h
  exact h
theorem heldS_one (v : Value) (n : Nat) (xs : List Value) (w : World) (hv : Rd w 1 v n (mks 1 n xs)) (hn : n ≤ 10) :
    Calls Tryd.prog 15 #[v, .int .i64 1] w (Ret w (.int .i64 (1 + (n : Int)))) := by
  have h := heldStringS_any v n 1 xs w hv (by omega) (by omega) (by omega)
  rw [Int.natCast_add] at h
  exact h
set_option maxHeartbeats 2000000 in
theorem walk_FnExactFareyLines (N : Int) (hN : (Lit.int .i64 N).wf = true) (w : World) (ht : Tb w) :
    Calls Tryd.prog 4 #[.int .i64 N] w (Ret w (.bool true)) := by
  clear hN
  have kS := fun w => fareyLinesS_any N w
  have kI := fun w h => fareyLinesI_any N w h
  have hlen := flM_len N
  generalize (flM N).1 = xs at *
  generalize (flM N).2 = code at *
  generalize hn : xs.length = n at *
  have HX := Lib.hid hn
  clear hn
  go_enter Tryd.func4, Tryd.ntmps4
  go_wp2_with fail
  apply Calls.mono
  · with_reducible exact kS _
  rintro _ w1 ⟨a0, rfl, ha0, hb_w1⟩
  have ht1 := ht.below hb_w1
  have q1 := hb_w1.size
  go_wp2_with fail
  apply Calls.mono
  · with_reducible exact kI _ ht1
  rintro _ w2 ⟨g0, rfl, hg0, hb_w2⟩
  have ht2 := ht1.below hb_w2
  have ra2 := own_below ha0 hb_w2 (Nat.le_refl _)
  have ap := own_apart ha0 hg0 (Nat.le_refl _)
  have bel2 := bthen hb_w1 hb_w2 q1
  go_wp2_with fail
  apply Calls.mono
  · with_reducible exact eqStringS_same _ _ n xs _ (Rd.of_own hg0) (Rd.of_own ra2)
  rintro _ w3 ⟨rfl, hb_w3⟩
  have ht3 := ht2.below hb_w3
  have ra3 := own_below ra2 hb_w3 (Nat.le_refl _)
  have rg3 := own_below hg0 hb_w3 (Nat.le_refl _)
  have bel3 := bthen bel2 hb_w3 bel2.size
  go_wp2_with fail
  apply Calls.mono
  · with_reducible exact markS_one _ _ n _ _ rg3 hlen
  rintro _ w4 ⟨rfl, hm0, hgr0⟩
  have bel4 : Below w.heap.size w w4 := bel3.grown hgr0 bel3.size (fun k hk => Nat.le_trans hb_w1.size (rg3.lt k hk).1)
  have bel14 : Below w1.heap.size w1 w4 := (bthen hb_w2 hb_w3 hb_w2.size).grown hgr0 (bthen hb_w2 hb_w3 hb_w2.size).size (fun k hk => (rg3.lt k hk).1)
  have ht4 := ht1.below bel14
  have ra4 := ra3.kept hgr0 ap
  go_wp2_with fail
  apply Calls.mono
  · with_reducible exact heldS_one _ n _ _ (Rd.of_own hm0) hlen
  rintro _ w5 ⟨rfl, hb_w5⟩
  have ht5 := ht4.below hb_w5
  have ra5 := own_below ra4 hb_w5 (Nat.le_refl _)
  have rg5 := own_below hm0 hb_w5 (Nat.le_refl _)
  have bel5 := bthen bel4 hb_w5 bel4.size
  have hq : ¬ ((1 : Int) + (n : Int) < 0) := by omega
  clear ha0 hg0 ra2 ra3 rg3 hm0 hgr0 hb_w1 hb_w2 hb_w3 hb_w5 bel2 bel3 bel4 bel14 ra4 ht1 ht2 ht3 ht4
  go_wp2_with fail
  apply Calls.mono
  · with_reducible exact kI _ ht5
  rintro _ w6 ⟨h0, rfl, hh0, hb_w6⟩
  have ra6 := own_below ra5 hb_w6 (Nat.le_refl _)
  have rg6 := own_below rg5 hb_w6 (Nat.le_refl _)
  have bel6 := bthen bel5 hb_w6 bel5.size
  go_wp2_with fail
  apply Calls.mono
  · with_reducible exact eqStringS_same _ _ n xs _ (Rd.of_own hh0) (Rd.of_own ra6)
  rintro _ w7 ⟨rfl, hb_w7⟩
  have rg7 := own_below rg6 hb_w7 (Nat.le_refl _)
  have bel7 := bthen bel6 hb_w7 bel6.size
  go_wp2_with fail
  apply Calls.mono
  · with_reducible exact heldS_one _ n _ _ (Rd.of_own rg7) hlen
  rintro _ w8 ⟨rfl, hb_w8⟩
  have bel8 := bthen bel7 hb_w8 bel7.size
  go_wp2
  go_ret
  refine ⟨by first | rfl | (simp), ?_⟩
  repeat' (first | (with_reducible exact Below.refl _ _) | (with_reducible assumption) | (with_reducible refine Below.alloc ?_ ?_ _) | (with_reducible refine Below.drew ?_) | (with_reducible refine bdrewN ?_ _) | (with_reducible refine Below.setCell ?_ ?_ _) | (with_reducible refine bthen ?_ (by assumption) ?_) | go_size)
theorem door_FnExactFareyLines (os : Os) (args : Array Value) : laidMetH Tryd.prog Rows.fnExactFareyLinesRow.laid ((World.doorLaid Tryd.prog 72 os).forCall (fun _ _ => 0) ⟨#[], args, []⟩).memory :=
  laidMetH_of_parts3 (fuel := 8) (laidMet_of_run' 8 (by kernel_rfl) (by kernel_rfl)) (by kernel_rfl) (by kernel_rfl)
set_option maxRecDepth 100000 in
theorem lifted_FnExactFareyLines (os : Os) (started : os.Started) (H : Type) (enc : TypeId × Value → H) :
    ReturnsInHanded {} Tryd.checked os 4 .any (fun w args => (Rows.fnExactFareyLinesSpec.pre enc Tryd.prog Tryd.f4 [] false w args ∧ laidMetH Tryd.prog Rows.fnExactFareyLinesRow.laid w) ∧ sizedMet enc Tryd.prog Tryd.f4 (OpenSpec.ofChange Rows.fnExactFareyLinesSpec) false w args) (Rows.fnExactFareyLinesSpec.post enc Tryd.prog Tryd.f4 false true false false) := by
  refine returnsInHanded_of_change_and (C := Tryd.checked) (X := fun w _ => laidMetH Tryd.prog Rows.fnExactFareyLinesRow.laid w) (fun _ _ _ hh h => h.of_heap hh) own started (by kernel_rfl) Tryd.func4
    (ChangeSpec.witness_shaped (enc := enc) (C := Tryd.checked) (os := os) (X := fun w _ => laidMetH Tryd.prog Rows.fnExactFareyLinesRow.laid w) false (World.doorLaid Tryd.prog 72 os) #[.int .i64 0] 8 rfl (World.shaped_of_RefB (by kernel_rfl) (by kernel_rfl)) (by kernel_rfl) (by kernel_rfl) (by kernel_rfl) (door_FnExactFareyLines os _)) ?_
  intro W base args ds gs before hval0 hW _ _ hL _
  have htb : Tb W := tb_of_laid hL (by kernel_rfl) (by kernel_rfl)
  have hval : ∀ (j : Nat) t v, Tryd.f4.params[j]? = some t → args[j]? = some v → Value.okWide Tryd.prog W .any base t v := hval0
  have hW' := hW
  obtain ⟨p, q, hA0, hV, rfl, hfz, hnd⟩ := hW
  have hA : DataW.TrodAll enc Tryd.prog W 0 (fun _ => true) true Tryd.f4.params.toList args.toList ds p := hA0
  rw [Tryd.params4] at hA hval
  obtain ⟨v0, vs0, d0, ds0, p0, q0, hargs, rfl, rfl, h0, r0⟩ := trodAll_cons hA
  obtain ⟨rfl, rfl, rfl⟩ := trodAll_nil r0
  obtain rfl : args = #[v0] := by cases args; simp_all
  obtain ⟨rfl, rfl⟩ := trodVars_none hV
  have k0 := h0
  have lt0 : ∀ x ∈ p0, x.block < W.heap.size := by obtain ⟨m, hm⟩ := k0; exact DataW.trod_lt m _ _ _ hm
  obtain ⟨a0, rfl, rfl, rfl, wf0⟩ := open_int Tryd.underlying2 (hval 0 2 v0 rfl rfl) h0
  clear hA0 hval0
  refine (walk_FnExactFareyLines a0 wf0 W htb).mono fun e W' ⟨he, bel⟩ => ?_
  subst he
  exact ⟨_, rfl, _, _, _, [], _, [], hW', trodAll_mk1 (shut_bool Tryd.underlying4 _), (trodAll_cons_mk (Below.trod laidOut (by kernel_rfl) (of_decide_eq_true (by kernel_rfl)) k0 bel lt0) trodAll_mk0), rfl, bel.frame _, fun h => by cases h⟩
theorem over_FnExactFareyLines : Rows.fnExactFareyLinesRow.holds Tryd.pinned (OpenSpec.ofChange Rows.fnExactFareyLinesSpec) :=
  OpenClaim.holds_of_wide 4 Tryd.f4 rfl rfl rfl rfl rfl rfl rfl ⟨rfl, rfl, rfl, rfl, rfl⟩ rfl rfl rfl rfl rfl (by kernel_rfl) Tryd.func4 (by kernel_rfl)
    (of_decide_eq_true (by kernel_rfl)) (by unfold Func.isWrapper; first | (rw [if_pos (by decide +kernel)]; kernel_rfl) | (rw [if_neg (by decide +kernel)]; exact ⟨rfl, rfl⟩))
    (fun os started H enc _ => lifted_FnExactFareyLines os started H enc)
/-- The tied card. -/
theorem holds_FnExactFareyLines : Rows.FnExactFareyLinesCardSaid :=
  Claim7.holds_tied_plain_at .later [] Rows.fnExactFareyLinesCard.laidKinds true Rows.fnExactFareyLinesCard.stood.harness true
    over_FnExactFareyLines (fun _ h => by cases h) (by kernel_rfl) (fun _ h => by cases h) fnExactFareyLines_row_tie rfl ⟨rfl, rfl⟩ (by kernel_rfl) (by kernel_rfl)
    (fun f fn hf hfn => by
      obtain rfl : f = 4 := Option.some.inj ((show Tryd.prog.funcNamed Rows.fnExactFareyLinesRow.func = some 4 by kernel_rfl).symm.trans hf) |>.symm
      obtain rfl : fn = Tryd.f4 := (Option.some.inj (Tryd.func4.symm.trans hfn)).symm
      refine ⟨by kernel_rfl, fun j t ht => ?_⟩
      have hall : (Tryd.f4.params.toList.all fun u => !Tryd.prog.wantsStandIn u) = true := by kernel_rfl
      have hm : t ∈ Tryd.f4.params.toList := by
        rw [← Array.getElem?_toList] at ht
        exact List.mem_of_getElem? ht
      exact (show Tryd.prog.wantsStandIn t = false by simpa using List.all_eq_true.1 hall t hm))
    (by kernel_rfl)
#print axioms holds_FnExactFareyLines

end Go.Proofs.YtlmmpeeacjbobaaDoor
