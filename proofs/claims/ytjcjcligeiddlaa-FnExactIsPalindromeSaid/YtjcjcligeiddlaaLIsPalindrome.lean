/-
  For all arguments the program's IsPalindrome returns what the reference's returns, and leaves its argument as it was. Conditions: none.
-/
import Derived.Test.YtjcjcligeiddlaaInts
import Derived.Test.YtjcjcligeiddlaaLaw
namespace Go.Proofs.Ytjcjcligeiddlaa
open Go.ChangeShapes Go.WideShapes Go.ChangeAt Go.RowKit Go.Joins
open Go.ChangeMaps (open_string shut_string)
set_option linter.unusedVariables false

theorem walk_FnExactIsPalindrome (a : Option Addr) (len cap : Nat) (zs : List Int) (w : World) (hrow : IsRow .i64 w a len cap zs) :
    Calls Try.prog 3 #[.slice a len cap] w (Ret w (.bool true)) := by
  obtain ⟨hrd, hlen⟩ := rd_of_row hrow
  have hcl := (rd_len hrd).2
  generalize zs.take len = ys at *
  by_cases hbig : (1048576 : Int) < (len : Int)
  · clear hrow hrd hlen
    go_enter Try.func3, Try.ntmps3
    go_wp2
    go_ret
    refine ⟨by first | rfl | (simp), ?_⟩
    repeat' (first | (with_reducible exact Below.refl _ _) | (with_reducible assumption) | (with_reducible refine Below.alloc ?_ ?_ _) | (with_reducible refine Below.drew ?_) | (with_reducible refine bdrewN ?_ _) | (with_reducible refine Below.setCell ?_ ?_ _) | (with_reducible refine bthen ?_ (by assumption) ?_) | go_size)
  · have hlen' : len ≤ 1048576 := by omega
    have HL := Lib.hid hlen
    clear hrow hlen
    go_enter Try.func3, Try.ntmps3
    go_wp2_with fail
    apply Calls.mono
    · with_reducible exact toInt64S_any _ _ _ _ hrd hlen'
    rintro _ w1 ⟨v1, rfl, ho1, hb_w1⟩
    go_wp2_with fail
    apply Calls.mono
    · with_reducible exact isPalindromeS_any _ _ _ _ (Rd.of_own ho1) _ rfl
    rintro _ w2 ⟨rfl, hb_w2⟩
    have hrd2 := (hrd.below hb_w1 (Nat.le_refl _)).below hb_w2 (Nat.le_refl _)
    go_wp2_with fail
    apply Calls.mono
    · with_reducible exact toInt64S_any _ _ _ _ hrd2 hlen'
    rintro _ w3 ⟨v3, rfl, ho3, hb_w3⟩
    go_wp2_with fail
    apply Calls.mono
    · with_reducible exact isPalindromeI_any _ _ _ _ (Rd.of_own ho3) _ rfl
    rintro _ w4 ⟨rfl, hb_w4⟩
    have hrd4 := (hrd2.below hb_w3 (Nat.le_refl _)).below hb_w4 (Nat.le_refl _)
    have ho4 := own_below ho3 hb_w4 (Nat.le_refl _)
    go_wp2_with fail
    apply Calls.mono
    · with_reducible exact toInt64S_any _ _ _ _ hrd4 hlen'
    rintro _ w5 ⟨v5, rfl, ho5, hb_w5⟩
    have ho5' := own_below ho4 hb_w5 (Nat.le_refl _)
    go_wp2_with fail
    apply Calls.mono
    · with_reducible exact eqInt64S_any _ _ _ _ ys ys _ (Rd.of_own ho5') (Rd.of_own ho5) true (by simp)
    rintro _ w6 ⟨rfl, hb_w6⟩
    have s1 := hb_w1.size
    have s2 := hb_w2.size
    have s3 := hb_w3.size
    have s4 := hb_w4.size
    have s5 := hb_w5.size
    go_wp2
    go_ret
    refine ⟨by first | rfl | (simp), ?_⟩
    repeat' (first | (with_reducible exact Below.refl _ _) | (with_reducible assumption) | (with_reducible refine Below.alloc ?_ ?_ _) | (with_reducible refine Below.drew ?_) | (with_reducible refine bdrewN ?_ _) | (with_reducible refine Below.setCell ?_ ?_ _) | (with_reducible refine bthen ?_ (by assumption) ?_) | go_size)
set_option maxRecDepth 100000 in
theorem lifted_FnExactIsPalindrome (os : Os) (started : os.Started) (H : Type) (enc : TypeId × Value → H) :
    ReturnsInHanded {} Try.checked os 3 .any (Rows.fnExactIsPalindromeSpec.pre6 enc Try.prog Try.f3 Rows.fnExactIsPalindromeRow.domain false) (Rows.fnExactIsPalindromeSpec.post enc Try.prog Try.f3 false true false false) := by
  refine returnsInHanded_of_change (C := Try.checked) own started (by kernel_rfl) Try.func3
    (ChangeSpec.witness6 (enc := enc) (C := Try.checked) false ⟨#[], #[.slice none 0 0], []⟩ 8 (by kernel_rfl) (by kernel_rfl) (by kernel_rfl) (by kernel_rfl)) ?_
  intro W base args ds gs before hval0 hW hcnd _
  have hval : ∀ (j : Nat) t v, Try.f3.params[j]? = some t → args[j]? = some v → Value.okWide Try.prog W .any base t v := hval0
  have hW' := hW
  obtain ⟨p, q, hA0, hV, rfl, hfz, hnd⟩ := hW
  have hA : DataW.TrodAll enc Try.prog W 0 (fun _ => true) true Try.f3.params.toList args.toList ds p := hA0
  rw [Try.params3] at hA hval
  obtain ⟨v0, vs0, d0, ds0, p0, q0, hargs, rfl, rfl, h0, r0⟩ := trodAll_cons hA
  obtain ⟨rfl, rfl, rfl⟩ := trodAll_nil r0
  obtain rfl : args = #[v0] := by cases args; simp_all
  obtain ⟨rfl, rfl⟩ := trodVars_none hV
  have k0 := h0
  have lt0 : ∀ x ∈ p0, x.block < W.heap.size := by obtain ⟨m, hm⟩ := k0; exact DataW.trod_lt m _ _ _ hm
  obtain ⟨a0, len0, cap0, rfl⟩ := okWide_slice Try.underlying22 (hval 0 22 v0 rfl rfl)
  obtain ⟨z0, r0⟩ : ∃ zs, IsRow .i64 W a0 len0 cap0 zs := by
    obtain ⟨fuel, hf⟩ := h0
    rcases open_ints Try.underlying22 Try.underlying2 (by kernel_rfl) hf with ⟨hcs, _⟩ | ⟨x, l, c, zs, hcs, _, hl, hm, hz, _, hcell, hwz⟩
    · simp [Value.cells] at hcs
      obtain ⟨rfl, rfl, rfl⟩ := hcs
      exact ⟨[], .inl ⟨rfl, rfl, rfl, rfl⟩⟩
    · simp [Value.cells] at hcs
      obtain ⟨rfl, rfl, rfl⟩ := hcs
      exact ⟨zs, .inr ⟨_, rfl, hl, hm, by simpa using hz, hcell, hwz⟩⟩
  clear hA0 hval0
  refine (walk_FnExactIsPalindrome a0 len0 cap0 z0 W r0).mono fun e W' ⟨he, bel⟩ => ?_
  subst he
  exact ⟨_, rfl, _, _, _, [], _, [], hW', trodAll_mk1 (shut_bool Try.underlying4 _), (trodAll_cons_mk (Below.trod laidOut (by kernel_rfl) (of_decide_eq_true (by kernel_rfl)) k0 bel lt0) trodAll_mk0), rfl, bel.frame _, fun h => by cases h⟩
theorem over_FnExactIsPalindrome : Rows.fnExactIsPalindromeRow.holds Try.pinned (OpenSpec.ofChange Rows.fnExactIsPalindromeSpec) :=
  OpenClaim.holds_of_wide 3 Try.f3 rfl rfl rfl rfl rfl rfl rfl ⟨rfl, rfl, rfl, rfl, rfl⟩ rfl rfl rfl rfl rfl (by kernel_rfl) Try.func3 (by kernel_rfl)
    (of_decide_eq_true (by kernel_rfl)) (by unfold Func.isWrapper; first | (rw [if_pos (by decide +kernel)]; kernel_rfl) | (rw [if_neg (by decide +kernel)]; exact ⟨rfl, rfl⟩))
    (fun os started H enc _ => lifted_FnExactIsPalindrome os started H enc)
/-- The statement. -/
theorem holds_FnExactIsPalindrome : Rows.FnExactIsPalindromeSaid := over_FnExactIsPalindrome
#print axioms holds_FnExactIsPalindrome

end Go.Proofs.Ytjcjcligeiddlaa
