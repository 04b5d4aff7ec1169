/-
  For all arguments the program's PeriodText returns what the reference's returns, and leaves its arguments as they were. Conditions: the library's tables hold what its text lays in them (the card ties this to the text).
-/
import Derived.Test.YtibbokllongomaaDoorPt
import Derived.Test.YtibbokllongomaaDoorCard
namespace Go.Proofs.YtibbokllongomaaDoor
open Go.ChangeShapes Go.WideShapes Go.ChangeAt Go.RowKit Go.Joins
open Go.ChangeMaps (open_string shut_string)
set_option linter.unusedVariables false

set_option maxHeartbeats 1000000 in
theorem walk_FnExactPeriodText (a1 : Option Addr) (len1 cap1 : Nat) (zs1 : List Int) (a2 : Option Addr) (len2 cap2 : Nat) (zs2 : List Int) (w : World) (ht : Tb w) (hrow1 : IsRow .i64 w a1 len1 cap1 zs1) (hrow2 : IsRow .i64 w a2 len2 cap2 zs2) :
    Calls Tryd.prog 5 #[.slice a1 len1 cap1, .slice a2 len2 cap2] w (Ret w (.bool true)) := by
  obtain ⟨hr1, hl1⟩ := rd_of_row hrow1
  obtain ⟨hr2, hl2⟩ := rd_of_row hrow2
  generalize zs1.take len1 = hs at *
  generalize zs2.take len2 = ls at *
  clear hrow1 hrow2 hl1 hl2
  by_cases hb1 : (1048576 : Int) < (len1 : Int)
  · clear hr1 hr2
    go_enter Tryd.func5, Tryd.ntmps5
    go_wp2
    go_ret
    refine ⟨by first | rfl | (simp), ?_⟩
    repeat' (first | (with_reducible exact Below.refl _ _) | (with_reducible assumption) | (with_reducible refine Below.alloc ?_ ?_ _) | (with_reducible refine Below.drew ?_) | (with_reducible refine bdrewN ?_ _) | (with_reducible refine Below.setCell ?_ ?_ _) | (with_reducible refine bthen ?_ (by assumption) ?_) | go_size)
  by_cases hb2 : (1048576 : Int) < (len2 : Int)
  · clear hr1 hr2
    go_enter Tryd.func5, Tryd.ntmps5
    go_wp2
    go_ret
    refine ⟨by first | rfl | (simp), ?_⟩
    repeat' (first | (with_reducible exact Below.refl _ _) | (with_reducible assumption) | (with_reducible refine Below.alloc ?_ ?_ _) | (with_reducible refine Below.drew ?_) | (with_reducible refine bdrewN ?_ _) | (with_reducible refine Below.setCell ?_ ?_ _) | (with_reducible refine bthen ?_ (by assumption) ?_) | go_size)
  have n1 : len1 ≤ 1048576 := by omega
  have n2 : len2 ≤ 1048576 := by omega
  have kT1 := fun w' (hb : Below w.heap.size w w') => toInt64S_any _ _ hs w' (hr1.below hb (Nat.le_refl _)) n1
  have kT2 := fun w' (hb : Below w.heap.size w w') => toInt64S_any _ _ ls w' (hr2.below hb (Nat.le_refl _)) n2
  have kS := fun v1 v2 w' (o1 : Rs w' 1 v1 len1 (ints hs)) (o2 : Rs w' 1 v2 len2 (ints ls)) => periodTextS_any v1 v2 len1 len2 hs ls w' o1 o2 n1 n2
  have kI := fun v1 v2 w' (ht : Tb w') (o1 : Rs w' 1 v1 len1 (ints hs)) (o2 : Rs w' 1 v2 len2 (ints ls)) => periodTextI_any v1 v2 len1 len2 hs ls w' ht o1 o2 n1 n2
  generalize ptM hs ls = T at *
  clear hr1 hr2
  go_enter Tryd.func5, Tryd.ntmps5
  go_wp2_with fail
  apply Calls.mono
  · with_reducible exact kT1 _ (Below.refl _ _)
  rintro _ w1 ⟨v1, rfl, ho1, hb_w1⟩
  go_wp2_with fail
  apply Calls.mono
  · with_reducible exact kT2 _ hb_w1
  rintro _ w2 ⟨v2, rfl, ho2, hb_w2⟩
  have bel2 : Below w.heap.size w w2 := bthen hb_w1 hb_w2 hb_w1.size
  go_wp2_with fail
  apply Calls.mono
  · with_reducible exact kS v1 v2 w2 (Rs.of_own (own_below ho1 hb_w2 (Nat.le_refl _))) (Rs.of_own ho2)
  rintro _ w3 ⟨rfl, hb_w3⟩
  have bel3 : Below w.heap.size w w3 := bthen bel2 hb_w3 bel2.size
  clear ho1 ho2 hb_w1 hb_w2 hb_w3
  go_wp2_with fail
  apply Calls.mono
  · with_reducible exact kT1 _ bel3
  rintro _ w4 ⟨v4, rfl, ho4, hb_w4⟩
  have bel4 : Below w.heap.size w w4 := bthen bel3 hb_w4 bel3.size
  go_wp2_with fail
  apply Calls.mono
  · with_reducible exact kT2 _ bel4
  rintro _ w5 ⟨v5, rfl, ho5, hb_w5⟩
  have bel5 : Below w.heap.size w w5 := bthen bel4 hb_w5 bel4.size
  have ht5 := ht.below bel5
  have ho4' := own_below ho4 hb_w5 (Nat.le_refl _)
  go_wp2_with fail
  apply Calls.mono
  · with_reducible exact kI v4 v5 w5 ht5 (Rs.of_own ho4') (Rs.of_own ho5)
  rintro _ w7 ⟨rfl, hb_w7⟩
  have bel7 : Below w.heap.size w w7 := bthen bel5 hb_w7 bel5.size
  have ho47 := own_below ho4' hb_w7 (Nat.le_refl _)
  have ho57 := own_below ho5 hb_w7 (Nat.le_refl _)
  clear hb_w7 hb_w4 hb_w5 ho4 ho5 ho4'
  go_wp2_with fail
  apply Calls.mono
  · with_reducible exact kT1 _ bel7
  rintro _ w8 ⟨v8, rfl, ho8, hb_w8⟩
  have bel8 : Below w.heap.size w w8 := bthen bel7 hb_w8 bel7.size
  have ho48 := own_below ho47 hb_w8 (Nat.le_refl _)
  have ho58 := own_below ho57 hb_w8 (Nat.le_refl _)
  go_wp2_with fail
  apply Calls.mono
  · with_reducible exact eqInt64S_any _ _ _ _ hs hs _ (Rd.of_own ho48) (Rd.of_own ho8) true (by simp)
  rintro _ w9 ⟨rfl, hb_w9⟩
  have bel9 : Below w.heap.size w w9 := bthen bel8 hb_w9 bel8.size
  have ho59 := own_below ho58 hb_w9 (Nat.le_refl _)
  go_wp2_with fail
  apply Calls.mono
  · with_reducible exact kT2 _ bel9
  rintro _ w10 ⟨v10, rfl, ho10, hb_w10⟩
  have bel10 : Below w.heap.size w w10 := bthen bel9 hb_w10 bel9.size
  have ho510 := own_below ho59 hb_w10 (Nat.le_refl _)
  go_wp2_with fail
  apply Calls.mono
  · with_reducible exact eqInt64S_any _ _ _ _ ls ls _ (Rd.of_own ho510) (Rd.of_own ho10) true (by simp)
  rintro _ w11 ⟨rfl, hb_w11⟩
  have bel11 : Below w.heap.size w w11 := bthen bel10 hb_w11 bel10.size
  go_wp2
  go_ret
  refine ⟨by first | rfl | (simp), ?_⟩
  repeat' (first | (with_reducible exact Below.refl _ _) | (with_reducible assumption) | (with_reducible refine Below.alloc ?_ ?_ _) | (with_reducible refine Below.drew ?_) | (with_reducible refine bdrewN ?_ _) | (with_reducible refine Below.setCell ?_ ?_ _) | (with_reducible refine bthen ?_ (by assumption) ?_) | go_size)
theorem door_FnExactPeriodText (os : Os) (args : Array Value) : laidMetH Tryd.prog Rows.fnExactPeriodTextRow.laid ((World.doorLaid Tryd.prog 62 os).forCall (fun _ _ => 0) ⟨#[], args, []⟩).memory :=
  laidMetH_of_parts3 (fuel := 8) (laidMet_of_run' 8 (by kernel_rfl) (by kernel_rfl)) (by kernel_rfl) (by kernel_rfl)
set_option maxRecDepth 100000 in
theorem lifted_FnExactPeriodText (os : Os) (started : os.Started) (H : Type) (enc : TypeId × Value → H) :
    ReturnsInHanded {} Tryd.checked os 5 .any (fun w args => (Rows.fnExactPeriodTextSpec.pre enc Tryd.prog Tryd.f5 [] false w args ∧ laidMetH Tryd.prog Rows.fnExactPeriodTextRow.laid w) ∧ sizedMet enc Tryd.prog Tryd.f5 (OpenSpec.ofChange Rows.fnExactPeriodTextSpec) false w args) (Rows.fnExactPeriodTextSpec.post enc Tryd.prog Tryd.f5 false true false false) := by
  refine returnsInHanded_of_change_and (C := Tryd.checked) (X := fun w _ => laidMetH Tryd.prog Rows.fnExactPeriodTextRow.laid w) (fun _ _ _ hh h => h.of_heap hh) own started (by kernel_rfl) Tryd.func5
    (ChangeSpec.witness_shaped (enc := enc) (C := Tryd.checked) (os := os) (X := fun w _ => laidMetH Tryd.prog Rows.fnExactPeriodTextRow.laid w) false (World.doorLaid Tryd.prog 62 os) #[.slice none 0 0, .slice none 0 0] 8 rfl (World.shaped_of_RefB (by kernel_rfl) (by kernel_rfl)) (by kernel_rfl) (by kernel_rfl) (by kernel_rfl) (door_FnExactPeriodText os _)) ?_
  intro W base args ds gs before hval0 hW _ _ hL _
  have htb : Tb W := tb_of_laid hL (by kernel_rfl) (by kernel_rfl)
  have hval : ∀ (j : Nat) t v, Tryd.f5.params[j]? = some t → args[j]? = some v → Value.okWide Tryd.prog W .any base t v := hval0
  have hW' := hW
  obtain ⟨p, q, hA0, hV, rfl, hfz, hnd⟩ := hW
  have hA : DataW.TrodAll enc Tryd.prog W 0 (fun _ => true) true Tryd.f5.params.toList args.toList ds p := hA0
  rw [Tryd.params5] at hA hval
  obtain ⟨v0, vs0, d0, ds0, p0, q0, hargs, rfl, rfl, h0, r0⟩ := trodAll_cons hA
  obtain ⟨v1, vs1, d1, ds1, p1, q1, rfl, rfl, rfl, h1, r1⟩ := trodAll_cons r0
  obtain ⟨rfl, rfl, rfl⟩ := trodAll_nil r1
  obtain rfl : args = #[v0, v1] := by cases args; simp_all
  obtain ⟨rfl, rfl⟩ := trodVars_none hV
  have k0 := h0
  have lt0 : ∀ x ∈ p0, x.block < W.heap.size := by obtain ⟨m, hm⟩ := k0; exact DataW.trod_lt m _ _ _ hm
  obtain ⟨a0, len0, cap0, rfl⟩ := okWide_slice Tryd.underlying24 (hval 0 24 v0 rfl rfl)
  obtain ⟨z0, ir0⟩ : ∃ zs, IsRow .i64 W a0 len0 cap0 zs := by
    obtain ⟨fuel, hf⟩ := h0
    rcases open_ints Tryd.underlying24 Tryd.underlying2 (by kernel_rfl) hf with ⟨hcs, _⟩ | ⟨x, l, c, zs, hcs, _, hl, hm, hz, _, hcell, hwz⟩
    · simp [Value.cells] at hcs
      obtain ⟨rfl, rfl, rfl⟩ := hcs
      exact ⟨[], .inl ⟨rfl, rfl, rfl, rfl⟩⟩
    · simp [Value.cells] at hcs
      obtain ⟨rfl, rfl, rfl⟩ := hcs
      exact ⟨zs, .inr ⟨_, rfl, hl, hm, by simpa using hz, hcell, hwz⟩⟩
  have k1 := h1
  have lt1 : ∀ x ∈ p1, x.block < W.heap.size := by obtain ⟨m, hm⟩ := k1; exact DataW.trod_lt m _ _ _ hm
  obtain ⟨a1, len1, cap1, rfl⟩ := okWide_slice Tryd.underlying24 (hval 1 24 v1 rfl rfl)
  obtain ⟨z1, ir1⟩ : ∃ zs, IsRow .i64 W a1 len1 cap1 zs := by
    obtain ⟨fuel, hf⟩ := h1
    rcases open_ints Tryd.underlying24 Tryd.underlying2 (by kernel_rfl) hf with ⟨hcs, _⟩ | ⟨x, l, c, zs, hcs, _, hl, hm, hz, _, hcell, hwz⟩
    · simp [Value.cells] at hcs
      obtain ⟨rfl, rfl, rfl⟩ := hcs
      exact ⟨[], .inl ⟨rfl, rfl, rfl, rfl⟩⟩
    · simp [Value.cells] at hcs
      obtain ⟨rfl, rfl, rfl⟩ := hcs
      exact ⟨zs, .inr ⟨_, rfl, hl, hm, by simpa using hz, hcell, hwz⟩⟩
  clear hA0 hval0
  refine (walk_FnExactPeriodText a0 len0 cap0 z0 a1 len1 cap1 z1 W htb ir0 ir1).mono fun e W' ⟨he, bel⟩ => ?_
  subst he
  exact ⟨_, rfl, _, _, _, [], _, [], hW', trodAll_mk1 (shut_bool Tryd.underlying4 _), (trodAll_cons_mk (Below.trod laidOut (by kernel_rfl) (of_decide_eq_true (by kernel_rfl)) k0 bel lt0) (trodAll_cons_mk (Below.trod laidOut (by kernel_rfl) (of_decide_eq_true (by kernel_rfl)) k1 bel lt1) trodAll_mk0)), rfl, bel.frame _, fun h => by cases h⟩
theorem over_FnExactPeriodText : Rows.fnExactPeriodTextRow.holds Tryd.pinned (OpenSpec.ofChange Rows.fnExactPeriodTextSpec) :=
  OpenClaim.holds_of_wide 5 Tryd.f5 rfl rfl rfl rfl rfl rfl rfl ⟨rfl, rfl, rfl, rfl, rfl⟩ rfl rfl rfl rfl rfl (by kernel_rfl) Tryd.func5 (by kernel_rfl)
    (of_decide_eq_true (by kernel_rfl)) (by unfold Func.isWrapper; first | (rw [if_pos (by decide +kernel)]; kernel_rfl) | (rw [if_neg (by decide +kernel)]; exact ⟨rfl, rfl⟩))
    (fun os started H enc _ => lifted_FnExactPeriodText os started H enc)
/-- The tied card. -/
theorem holds_FnExactPeriodText : Rows.FnExactPeriodTextCardSaid :=
  Claim7.holds_tied_plain_at .later [] Rows.fnExactPeriodTextCard.laidKinds true Rows.fnExactPeriodTextCard.stood.harness true
    over_FnExactPeriodText (fun _ h => by cases h) (by kernel_rfl) (fun _ h => by cases h) fnExactPeriodText_row_tie rfl ⟨rfl, rfl⟩ (by kernel_rfl) (by kernel_rfl)
    (fun f fn hf hfn => by
      obtain rfl : f = 5 := Option.some.inj ((show Tryd.prog.funcNamed Rows.fnExactPeriodTextRow.func = some 5 by kernel_rfl).symm.trans hf) |>.symm
      obtain rfl : fn = Tryd.f5 := (Option.some.inj (Tryd.func5.symm.trans hfn)).symm
      refine ⟨by kernel_rfl, fun j t ht => ?_⟩
      have hall : (Tryd.f5.params.toList.all fun u => !Tryd.prog.wantsStandIn u) = true := by kernel_rfl
      have hm : t ∈ Tryd.f5.params.toList := by
        rw [← Array.getElem?_toList] at ht
        exact List.mem_of_getElem? ht
      exact (show Tryd.prog.wantsStandIn t = false by simpa using List.all_eq_true.1 hall t hm))
    (by kernel_rfl)
#print axioms holds_FnExactPeriodText

end Go.Proofs.YtibbokllongomaaDoor
