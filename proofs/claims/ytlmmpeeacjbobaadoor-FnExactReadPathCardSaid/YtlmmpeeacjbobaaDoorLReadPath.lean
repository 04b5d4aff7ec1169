/-
  For all arguments the program's ReadPath returns what the reference's returns. Conditions: none.
-/
import Derived.Test.YtlmmpeeacjbobaaDoorRpi
import Derived.Test.YtlmmpeeacjbobaaDoorMk
import Derived.Test.YtlmmpeeacjbobaaDoorCardR
import Derived.ShutString
namespace Go.Proofs.YtlmmpeeacjbobaaDoor
open Go.ChangeShapes Go.WideShapes Go.ChangeAt Go.RowKit Go.Joins
open Go.ChangeMaps (open_string shut_string)
set_option linter.unusedVariables false

theorem rp_small (l : List UInt8) : ((rpS l).getD []).length ≤ 60 := by
  unfold rpS
  split
  · simp
  · split
    · rename_i rs _
      split
      · rename_i hk
        exact (ok_facts hk).1
      · simp
    · simp
set_option maxHeartbeats 4000000 in
theorem walk_FnExactReadPath (s : ByteArray) (hs : s.size ≤ maxLen) (w : World) (hw : Rw w) :
    Calls Tryd.prog 6 #[.string s] w (Ret w (.bool true)) := by
  by_cases hl : s.size ≤ 1048576
  · have hl' : ¬ ((s.size : Int) > 1048576) := by omega
    have kS := fun w => readPathS_any s hl w
    have kI := fun w h => readPathI_any s hl w h
    have sm := rp_small s.data.toList
    unfold RetRd at kS kI
    generalize rpS s.data.toList = R at *
    generalize hxs : R.getD [] = xs at *
    generalize hb : R.isSome = b at *
    clear hxs hb
    obtain ⟨nx, hnx⟩ : ∃ n, xs.length = n := ⟨_, rfl⟩
    rw [hnx] at kS kI sm
    clear hnx
    go_enter Tryd.func6, Tryd.ntmps6
    go_wp2_with fail
    apply Calls.mono
    · with_reducible exact kS _
    rintro _ w2 ⟨a0, rfl, ha0, hb_w2⟩
    obtain ⟨hc_w2, hf_w2, hs_w2⟩ := bcell hb_w2
    try simp at hs_w2
    have q_w2 := hb_w2.size
    have hw2 := hw.below hb_w2
    go_wp2_with fail
    apply Calls.mono
    · with_reducible exact kI _ hw2
    rintro _ w4 ⟨g0, rfl, hg0, hb_w4⟩
    have ra0_w4 := own_below ha0 hb_w4 (Nat.le_refl _)
    obtain ⟨hc_w4, hf_w4, hs_w4⟩ := bcell hb_w4
    try simp at hs_w4
    have q_w4 := hb_w4.size
    have hw4 := hw2.below hb_w4
    have ap_a0_g0 := own_apart ha0 hg0 (Nat.le_refl _)
    go_wp2_with fail
    apply Calls.mono
    · with_reducible exact eqInt64S_any _ _ _ _ _ _ _ (Rd.of_own hg0) (Rd.of_own ra0_w4) true (by simp)
    rintro _ w5 ⟨rfl, hb_w5⟩
    have ra0_w5 := own_below ra0_w4 hb_w5 (Nat.le_refl _)
    have rg0_w5 := own_below hg0 hb_w5 (Nat.le_refl _)
    obtain ⟨hc_w5, hf_w5, hs_w5⟩ := bcell hb_w5
    try simp at hs_w5
    have q_w5 := hb_w5.size
    have hw5 := hw4.below hb_w5
    go_wp2_with fail
    apply Calls.mono
    · with_reducible exact markInt64S_any _ _ _ _ _ _ rg0_w5 (by first | omega | (simp; omega)) (by first | omega | (simp; omega)) (by first | omega | (simp; omega))
    rintro _ w6 ⟨rfl, hm0, hgr0⟩
    have hb_w6 := grown_below rg0_w5 hgr0 (Nat.le_refl _) (by omega)
    have ra0_w6 := ra0_w5.kept hgr0 ap_a0_g0
    have rg0_w6 := hm0
    obtain ⟨hc_w6, hf_w6, hs_w6⟩ := bcell hb_w6
    try simp at hs_w6
    have q_w6 := hgr0.size
    have bel4 := bthen hb_w2 hb_w4 q_w2
    have bel5 := bthen bel4 hb_w5 bel4.size
    have bel6 : Below w.heap.size w w6 := bel5.grown hgr0 bel5.size (fun k hk => by have := (rg0_w5.lt k hk).1; omega)
    clear hgr0 hm0
    go_wp2_with fail
    apply Calls.mono
    · with_reducible exact heldInt64S_any _ _ _ _ _ (Rd.of_own rg0_w6) (by first | omega | (simp; omega)) (by first | omega | (simp; omega)) (by first | omega | (simp; omega))
    rintro _ w7 ⟨rfl, hb_w7⟩
    have ra0_w7 := own_below ra0_w6 hb_w7 (Nat.le_refl _)
    have rg0_w7 := own_below rg0_w6 hb_w7 (Nat.le_refl _)
    have q_w7 := hb_w7.size
    have bel7 := bthen bel6 hb_w7 bel6.size
    have hw7 := hw.below bel7
    go_wp2_with fail
    apply Calls.mono
    · with_reducible exact kI _ hw7
    rintro _ w9 ⟨h0, rfl, hh0, hb_w9⟩
    have ra0_w9 := own_below ra0_w7 hb_w9 (Nat.le_refl _)
    have rg0_w9 := own_below rg0_w7 hb_w9 (Nat.le_refl _)
    have q_w9 := hb_w9.size
    have bel9 := bthen bel7 hb_w9 bel7.size
    go_wp2_with fail
    apply Calls.mono
    · with_reducible exact eqInt64S_any _ _ _ _ _ _ _ (Rd.of_own hh0) (Rd.of_own ra0_w9) true (by simp)
    rintro _ w10 ⟨rfl, hb_w10⟩
    have rg0_w10 := own_below rg0_w9 hb_w10 (Nat.le_refl _)
    have bel10 := bthen bel9 hb_w10 bel9.size
    go_wp2_with fail
    apply Calls.mono
    · with_reducible exact heldInt64S_any _ _ _ _ _ (Rd.of_own rg0_w10) (by first | omega | (simp; omega)) (by first | omega | (simp; omega)) (by first | omega | (simp; omega))
    rintro _ w11 ⟨rfl, hb_w11⟩
    have bel11 := bthen bel10 hb_w11 bel10.size
    clear rg0_w10 rg0_w9 ra0_w9 ra0_w7 rg0_w7 hh0 ra0_w6 rg0_w6 hb_w11 hb_w10 hb_w9 hb_w7 bel10 bel9 bel7 bel6 bel5 bel4
    go_wp2
    go_ret
    refine ⟨by first | rfl | (simp), ?_⟩
    repeat' (first | (with_reducible exact Below.refl _ _) | (with_reducible assumption) | (with_reducible refine Below.alloc ?_ ?_ _) | (with_reducible refine Below.drew ?_) | (with_reducible refine bdrewN ?_ _) | (with_reducible refine Below.setCell ?_ ?_ _) | (with_reducible refine bthen ?_ (by assumption) ?_) | go_size)
  · have hl' : (s.size : Int) > 1048576 := by omega
    go_enter Tryd.func6, Tryd.ntmps6
    go_wp2
    go_ret
    refine ⟨by first | rfl | (simp), ?_⟩
    repeat' (first | (with_reducible exact Below.refl _ _) | (with_reducible assumption) | (with_reducible refine Below.alloc ?_ ?_ _) | (with_reducible refine Below.drew ?_) | (with_reducible refine bdrewN ?_ _) | (with_reducible refine Below.setCell ?_ ?_ _) | (with_reducible refine bthen ?_ (by assumption) ?_) | go_size)
set_option maxRecDepth 100000 in
theorem lifted_FnExactReadPath (os : Os) (started : os.Started) (H : Type) (enc : TypeId × Value → H) :
    ReturnsInHanded {} Tryd.checked os 6 .any (fun w args => (Rows.fnExactReadPathSpec.pre enc Tryd.prog Tryd.f6 [] false w args ∧ laidMetH Tryd.prog Rows.fnExactReadPathRow.laid w) ∧ sizedMet enc Tryd.prog Tryd.f6 (OpenSpec.ofChange Rows.fnExactReadPathSpec) false w args) (Rows.fnExactReadPathSpec.post enc Tryd.prog Tryd.f6 false true false false) := by
  refine wrap_both (C := Tryd.checked) (X := fun w _ => laidMetH Tryd.prog Rows.fnExactReadPathRow.laid w) (fun _ _ _ hh h => h.of_heap hh) own started (by kernel_rfl) Tryd.func6
    (ChangeSpec.witness_shaped (enc := enc) (C := Tryd.checked) (os := os) (X := fun w _ => laidMetH Tryd.prog Rows.fnExactReadPathRow.laid w) false (World.laidAll Tryd.prog os Rows.fnExactReadPathRow.laid) #[.string ByteArray.empty] 8 (World.laidAll_os _ _ _)
      (World.shaped_of_ZipB (by kernel_rfl) (by kernel_rfl)) (by kernel_rfl) (by kernel_rfl) (by kernel_rfl)
      (by rw [MakeChecks.laidMetH_plain _ _ _ (by kernel_rfl)]; exact laidMet_laidAll _ (by kernel_rfl) (by kernel_rfl))) ?_
  intro W base args ds gs before hval0 hW _ hL hsh
  have hL0 := hL
  rw [MakeChecks.laidMetH_plain _ _ _ (by kernel_rfl)] at hL0
  have htb : Rw W := rw_of_laid (tb_of_laid hL (by kernel_rfl) (by kernel_rfl)) hL0.tail.tail.tail.tail hsh
  have hval : ∀ (j : Nat) t v, Tryd.f6.params[j]? = some t → args[j]? = some v → Value.okWide Tryd.prog W .any base t v := hval0
  have hW' := hW
  obtain ⟨p, q, hA0, hV, rfl, hfz, hnd⟩ := hW
  have hA : DataW.TrodAll enc Tryd.prog W 0 (fun _ => true) true Tryd.f6.params.toList args.toList ds p := hA0
  rw [Tryd.params6] at hA hval
  obtain ⟨v0, vs0, d0, ds0, p0, q0, hargs, rfl, rfl, h0, r0⟩ := trodAll_cons hA
  obtain ⟨rfl, rfl, rfl⟩ := trodAll_nil r0
  obtain rfl : args = #[v0] := by cases args; simp_all
  obtain ⟨rfl, rfl⟩ := trodVars_none hV
  have k0 := h0
  have lt0 : ∀ x ∈ p0, x.block < W.heap.size := by obtain ⟨m, hm⟩ := k0; exact DataW.trod_lt m _ _ _ hm
  obtain ⟨a0, rfl, rfl, rfl, wf0⟩ := open_string Tryd.underlying9 (hval 0 9 v0 rfl rfl) h0
  clear hA0 hval0
  refine (walk_FnExactReadPath a0 wf0 W htb).mono fun e W' ⟨he, bel⟩ => ?_
  subst he
  exact ⟨_, rfl, _, _, _, [], _, [], hW', trodAll_mk1 (shut_bool Tryd.underlying4 _), (trodAll_cons_mk (Below.trod laidOut (by kernel_rfl) (of_decide_eq_true (by kernel_rfl)) k0 bel lt0) trodAll_mk0), rfl, bel.frame _, fun h => by cases h⟩
theorem over_FnExactReadPath : Rows.fnExactReadPathRow.holds Tryd.pinned (OpenSpec.ofChange Rows.fnExactReadPathSpec) :=
  OpenClaim.holds_of_wide 6 Tryd.f6 rfl rfl rfl rfl rfl rfl rfl ⟨rfl, rfl, rfl, rfl, rfl⟩ rfl rfl rfl rfl rfl (by kernel_rfl) Tryd.func6 (by kernel_rfl)
    (of_decide_eq_true (by kernel_rfl)) (by unfold Func.isWrapper; first | (rw [if_pos (by decide +kernel)]; kernel_rfl) | (rw [if_neg (by decide +kernel)]; exact ⟨rfl, rfl⟩))
    (fun os started H enc _ => lifted_FnExactReadPath os started H enc)
/-- The tied card. -/
theorem holds_FnExactReadPath : Rows.FnExactReadPathCardSaid :=
  Claim7.holds_tied_plain_at .later [] Rows.fnExactReadPathCard.laidKinds true Rows.fnExactReadPathCard.stood.harness true
    over_FnExactReadPath (fun _ h => by cases h) (by kernel_rfl) (fun _ h => by cases h) fnExactReadPath_row_tie rfl ⟨rfl, rfl⟩ (by kernel_rfl) (by kernel_rfl)
    (fun f fn hf hfn => by
      obtain rfl : f = 6 := Option.some.inj ((show Tryd.prog.funcNamed Rows.fnExactReadPathRow.func = some 6 by kernel_rfl).symm.trans hf) |>.symm
      obtain rfl : fn = Tryd.f6 := (Option.some.inj (Tryd.func6.symm.trans hfn)).symm
      refine ⟨by kernel_rfl, fun j t ht => ?_⟩
      have hall : (Tryd.f6.params.toList.all fun u => !Tryd.prog.wantsStandIn u) = true := by kernel_rfl
      have hm : t ∈ Tryd.f6.params.toList := by
        rw [← Array.getElem?_toList] at ht
        exact List.mem_of_getElem? ht
      exact (show Tryd.prog.wantsStandIn t = false by simpa using List.all_eq_true.1 hall t hm))
    (by kernel_rfl)
#print axioms holds_FnExactReadPath

end Go.Proofs.YtlmmpeeacjbobaaDoor
