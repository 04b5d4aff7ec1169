/-
  For all arguments the program's SurdFromPeriod returns what the reference's returns, and leaves its arguments as they were. Conditions: none.
-/
import Derived.Test.YtkjakgemjhbfoaaSk5
import Derived.Test.YtkjakgemjhbfoaaLaw
namespace Go.Proofs.Ytkjakgemjhbfoaa
open Go.ChangeShapes Go.WideShapes Go.ChangeAt Go.RowKit Go.Joins
open Go.ChangeMaps (open_string shut_string)
set_option linter.unusedVariables false

theorem new3 (w : World) (t : TypeId) (x y z : Value) : Blk (w.alloc (.cells #[x, y, z] t)) w.heap.size t #[x, y, z] := Blk.new w t _
theorem walk_FnExactSurdFromPeriod (a1 : Option Addr) (len1 cap1 : Nat) (zs1 : List Int) (a2 : Option Addr) (len2 cap2 : Nat) (zs2 : List Int) (w : World) (hrow1 : IsRow .i64 w a1 len1 cap1 zs1) (hrow2 : IsRow .i64 w a2 len2 cap2 zs2) :
    Calls Try.prog 7 #[.slice a1 len1 cap1, .slice a2 len2 cap2] w (Ret w (.bool true)) := by
  obtain ⟨hr1, hl1⟩ := rd_of_row hrow1
  obtain ⟨hr2, hl2⟩ := rd_of_row hrow2
  generalize zs1.take len1 = hs at *
  generalize zs2.take len2 = ls at *
  clear hrow1 hrow2 hl1 hl2
  by_cases hb1 : (1048576 : Int) < (len1 : Int)
  · clear hr1 hr2
    go_enter Try.func7, Try.ntmps7
    go_wp2
    go_ret
    refine ⟨by first | rfl | (simp), ?_⟩
    repeat' (first | (with_reducible exact Below.refl _ _) | (with_reducible assumption) | (with_reducible refine Below.alloc ?_ ?_ _) | (with_reducible refine Below.drew ?_) | (with_reducible refine bdrewN ?_ _) | (with_reducible refine Below.setCell ?_ ?_ _) | (with_reducible refine bthen ?_ (by assumption) ?_) | go_size)
  by_cases hb2 : (1048576 : Int) < (len2 : Int)
  · clear hr1 hr2
    go_enter Try.func7, Try.ntmps7
    go_wp2
    go_ret
    refine ⟨by first | rfl | (simp), ?_⟩
    repeat' (first | (with_reducible exact Below.refl _ _) | (with_reducible assumption) | (with_reducible refine Below.alloc ?_ ?_ _) | (with_reducible refine Below.drew ?_) | (with_reducible refine bdrewN ?_ _) | (with_reducible refine Below.setCell ?_ ?_ _) | (with_reducible refine bthen ?_ (by assumption) ?_) | go_size)
  have n1 : len1 ≤ 1048576 := by omega
  have n2 : len2 ≤ 1048576 := by omega
  have R1 := Lib.hid hr1
  have R2 := Lib.hid hr2
  have kT1 := fun w' (hb : Below w.heap.size w w') => toInt64S_any _ _ hs w' (hr1.below hb (Nat.le_refl _)) n1
  have kT2 := fun w' (hb : Below w.heap.size w w') => toInt64S_any _ _ ls w' (hr2.below hb (Nat.le_refl _)) n2
  have kS := fun v1 v2 w' (o1 : Rs w' 1 v1 len1 (ints hs)) (o2 : Rs w' 1 v2 len2 (ints ls)) => surdFromS_any v1 v2 len1 len2 hs ls w' o1 o2 n1 n2
  have kI := fun v1 v2 w' (o1 : Rs w' 1 v1 len1 (ints hs)) (o2 : Rs w' 1 v2 len2 (ints ls)) => surdFromI_any v1 v2 len1 len2 hs ls w' o1 o2 n1 n2
  generalize (sfM hs ls).1.1 = s1 at *
  generalize (sfM hs ls).1.2.1 = s2 at *
  generalize (sfM hs ls).1.2.2 = s3 at *
  generalize (sfM hs ls).2 = s4 at *
  clear hr1 hr2
  go_enter Try.func7, Try.ntmps7
  go_wp2_with fail
  apply Calls.mono
  · with_reducible exact kT1 _ (Below.refl _ _)
  rintro _ w1 ⟨v1, rfl, ho1, hb_w1⟩
  go_wp2_with fail
  apply Calls.mono
  · with_reducible exact kT2 _ hb_w1
  rintro _ w2 ⟨v2, rfl, ho2, hb_w2⟩
  have bel2 : Below w.heap.size w w2 := bthen hb_w1 hb_w2 hb_w1.size
  go_wp2_with fail
  apply Calls.mono
  · with_reducible exact kS v1 v2 w2 (Rs.of_own (own_below ho1 hb_w2 (Nat.le_refl _))) (Rs.of_own ho2)
  rintro _ w3 ⟨rfl, hb_w3⟩
  have bel3 : Below w.heap.size w w3 := bthen bel2 hb_w3 bel2.size
  have hA := new3 w3 50 (.int .i64 s1) (.int .i64 s2) (.int .i64 s3)
  have bel3' : Below w.heap.size w (w3.alloc (.cells #[.int .i64 s1, .int .i64 s2, .int .i64 s3] 50)) := bel3.alloc bel3.size _
  clear ho1 ho2 hb_w1 hb_w2 hb_w3
  go_wp2_with fail
  apply Calls.mono
  · with_reducible exact kT1 _ bel3'
  rintro _ w4 ⟨v4, rfl, ho4, hb_w4⟩
  have bel4 : Below w.heap.size w w4 := bthen bel3' hb_w4 bel3'.size
  have hA4 := hA.below hb_w4 hA.lt
  go_wp2_with fail
  apply Calls.mono
  · with_reducible exact kT2 _ bel4
  rintro _ w5 ⟨v5, rfl, ho5, hb_w5⟩
  have bel5 : Below w.heap.size w w5 := bthen bel4 hb_w5 bel4.size
  have hA5 := hA4.below hb_w5 hA4.lt
  have ho4' := own_below ho4 hb_w5 (Nat.le_refl _)
  go_wp2_with fail
  apply Calls.mono
  · with_reducible exact kI v4 v5 w5 (Rs.of_own ho4') (Rs.of_own ho5)
  rintro _ w6 ⟨rfl, hb_w6⟩
  have bel6 : Below w.heap.size w w6 := bthen bel5 hb_w6 bel5.size
  have hA6 := hA5.below hb_w6 hA5.lt
  have ho46 := own_below ho4' hb_w6 (Nat.le_refl _)
  have ho56 := own_below ho5 hb_w6 (Nat.le_refl _)
  have c0 : w6.cell? ⟨w3.heap.size, 0, none⟩ = some (.int .i64 s1) := hA6.cell 0
  have c1 : w6.cell? ⟨w3.heap.size, 1, none⟩ = some (.int .i64 s2) := hA6.cell 1
  have c2 : w6.cell? ⟨w3.heap.size, 2, none⟩ = some (.int .i64 s3) := hA6.cell 2
  have z6 := hA6.lt
  clear hA hA4 hA5 ho4 ho5 ho4' hb_w4 hb_w5 hb_w6
  go_wp2_with fail
  apply Calls.mono
  · with_reducible exact eqSurd_same _ _ _ _
  rintro _ w7 ⟨rfl, hb_w7⟩
  have bel7 : Below w.heap.size w w7 := bthen (bel6.alloc bel6.size _) hb_w7 (by rw [World.size_alloc]; have := bel6.size; omega)
  have ho47 := own_below (ho46.alloc _) hb_w7 (by rw [World.size_alloc]; omega)
  have ho57 := own_below (ho56.alloc _) hb_w7 (by rw [World.size_alloc]; omega)
  clear hb_w7
  go_wp2_with fail
  apply Calls.mono
  · with_reducible exact kT1 _ bel7
  rintro _ w8 ⟨v8, rfl, ho8, hb_w8⟩
  have bel8 : Below w.heap.size w w8 := bthen bel7 hb_w8 bel7.size
  have ho48 := own_below ho47 hb_w8 (Nat.le_refl _)
  have ho58 := own_below ho57 hb_w8 (Nat.le_refl _)
  go_wp2_with fail
  apply Calls.mono
  · with_reducible exact eqInt64S_any _ _ _ _ hs hs _ (Rd.of_own ho48) (Rd.of_own ho8) true (by simp)
  rintro _ w9 ⟨rfl, hb_w9⟩
  have bel9 : Below w.heap.size w w9 := bthen bel8 hb_w9 bel8.size
  have ho59 := own_below ho58 hb_w9 (Nat.le_refl _)
  go_wp2_with fail
  apply Calls.mono
  · with_reducible exact kT2 _ bel9
  rintro _ w10 ⟨v10, rfl, ho10, hb_w10⟩
  have bel10 : Below w.heap.size w w10 := bthen bel9 hb_w10 bel9.size
  have ho510 := own_below ho59 hb_w10 (Nat.le_refl _)
  go_wp2_with fail
  apply Calls.mono
  · with_reducible exact eqInt64S_any _ _ _ _ ls ls _ (Rd.of_own ho510) (Rd.of_own ho10) true (by simp)
  rintro _ w11 ⟨rfl, hb_w11⟩
  have bel11 : Below w.heap.size w w11 := bthen bel10 hb_w11 bel10.size
  go_wp2
  go_ret
  refine ⟨by first | rfl | (simp), ?_⟩
  repeat' (first | (with_reducible exact Below.refl _ _) | (with_reducible assumption) | (with_reducible refine Below.alloc ?_ ?_ _) | (with_reducible refine Below.drew ?_) | (with_reducible refine bdrewN ?_ _) | (with_reducible refine Below.setCell ?_ ?_ _) | (with_reducible refine bthen ?_ (by assumption) ?_) | go_size)
set_option maxRecDepth 100000 in
theorem lifted_FnExactSurdFromPeriod (os : Os) (started : os.Started) (H : Type) (enc : TypeId × Value → H) :
    ReturnsInHanded {} Try.checked os 7 .any (Rows.fnExactSurdFromPeriodSpec.pre6 enc Try.prog Try.f7 Rows.fnExactSurdFromPeriodRow.domain false) (Rows.fnExactSurdFromPeriodSpec.post enc Try.prog Try.f7 false true false false) := by
  refine returnsInHanded_of_change (C := Try.checked) own started (by kernel_rfl) Try.func7
    (ChangeSpec.witness6 (enc := enc) (C := Try.checked) false ⟨#[], #[.slice none 0 0, .slice none 0 0], []⟩ 8 (by kernel_rfl) (by kernel_rfl) (by kernel_rfl) (by kernel_rfl)) ?_
  intro W base args ds gs before hval0 hW hcnd _
  have hval : ∀ (j : Nat) t v, Try.f7.params[j]? = some t → args[j]? = some v → Value.okWide Try.prog W .any base t v := hval0
  have hW' := hW
  obtain ⟨p, q, hA0, hV, rfl, hfz, hnd⟩ := hW
  have hA : DataW.TrodAll enc Try.prog W 0 (fun _ => true) true Try.f7.params.toList args.toList ds p := hA0
  rw [Try.params7] at hA hval
  obtain ⟨v0, vs0, d0, ds0, p0, q0, hargs, rfl, rfl, h0, r0⟩ := trodAll_cons hA
  obtain ⟨v1, vs1, d1, ds1, p1, q1, rfl, rfl, rfl, h1, r1⟩ := trodAll_cons r0
  obtain ⟨rfl, rfl, rfl⟩ := trodAll_nil r1
  obtain rfl : args = #[v0, v1] := by cases args; simp_all
  obtain ⟨rfl, rfl⟩ := trodVars_none hV
  have k0 := h0
  have lt0 : ∀ x ∈ p0, x.block < W.heap.size := by obtain ⟨m, hm⟩ := k0; exact DataW.trod_lt m _ _ _ hm
  obtain ⟨a0, len0, cap0, rfl⟩ := okWide_slice Try.underlying41 (hval 0 41 v0 rfl rfl)
  obtain ⟨z0, ir0⟩ : ∃ zs, IsRow .i64 W a0 len0 cap0 zs := by
    obtain ⟨fuel, hf⟩ := h0
    rcases open_ints Try.underlying41 Try.underlying2 (by kernel_rfl) hf with ⟨hcs, _⟩ | ⟨x, l, c, zs, hcs, _, hl, hm, hz, _, hcell, hwz⟩
    · simp [Value.cells] at hcs
      obtain ⟨rfl, rfl, rfl⟩ := hcs
      exact ⟨[], .inl ⟨rfl, rfl, rfl, rfl⟩⟩
    · simp [Value.cells] at hcs
      obtain ⟨rfl, rfl, rfl⟩ := hcs
      exact ⟨zs, .inr ⟨_, rfl, hl, hm, by simpa using hz, hcell, hwz⟩⟩
  have k1 := h1
  have lt1 : ∀ x ∈ p1, x.block < W.heap.size := by obtain ⟨m, hm⟩ := k1; exact DataW.trod_lt m _ _ _ hm
  obtain ⟨a1, len1, cap1, rfl⟩ := okWide_slice Try.underlying41 (hval 1 41 v1 rfl rfl)
  obtain ⟨z1, ir1⟩ : ∃ zs, IsRow .i64 W a1 len1 cap1 zs := by
    obtain ⟨fuel, hf⟩ := h1
    rcases open_ints Try.underlying41 Try.underlying2 (by kernel_rfl) hf with ⟨hcs, _⟩ | ⟨x, l, c, zs, hcs, _, hl, hm, hz, _, hcell, hwz⟩
    · simp [Value.cells] at hcs
      obtain ⟨rfl, rfl, rfl⟩ := hcs
      exact ⟨[], .inl ⟨rfl, rfl, rfl, rfl⟩⟩
    · simp [Value.cells] at hcs
      obtain ⟨rfl, rfl, rfl⟩ := hcs
      exact ⟨zs, .inr ⟨_, rfl, hl, hm, by simpa using hz, hcell, hwz⟩⟩
  clear hA0 hval0
  refine (walk_FnExactSurdFromPeriod a0 len0 cap0 z0 a1 len1 cap1 z1 W ir0 ir1).mono fun e W' ⟨he, bel⟩ => ?_
  subst he
  exact ⟨_, rfl, _, _, _, [], _, [], hW', trodAll_mk1 (shut_bool Try.underlying4 _), (trodAll_cons_mk (Below.trod laidOut (by kernel_rfl) (of_decide_eq_true (by kernel_rfl)) k0 bel lt0) (trodAll_cons_mk (Below.trod laidOut (by kernel_rfl) (of_decide_eq_true (by kernel_rfl)) k1 bel lt1) trodAll_mk0)), rfl, bel.frame _, fun h => by cases h⟩
theorem over_FnExactSurdFromPeriod : Rows.fnExactSurdFromPeriodRow.holds Try.pinned (OpenSpec.ofChange Rows.fnExactSurdFromPeriodSpec) :=
  OpenClaim.holds_of_wide 7 Try.f7 rfl rfl rfl rfl rfl rfl rfl ⟨rfl, rfl, rfl, rfl, rfl⟩ rfl rfl rfl rfl rfl (by kernel_rfl) Try.func7 (by kernel_rfl)
    (of_decide_eq_true (by kernel_rfl)) (by unfold Func.isWrapper; first | (rw [if_pos (by decide +kernel)]; kernel_rfl) | (rw [if_neg (by decide +kernel)]; exact ⟨rfl, rfl⟩))
    (fun os started H enc _ => lifted_FnExactSurdFromPeriod os started H enc)
/-- The statement. -/
theorem holds_FnExactSurdFromPeriod : Rows.FnExactSurdFromPeriodSaid := over_FnExactSurdFromPeriod
#print axioms holds_FnExactSurdFromPeriod

end Go.Proofs.Ytkjakgemjhbfoaa
