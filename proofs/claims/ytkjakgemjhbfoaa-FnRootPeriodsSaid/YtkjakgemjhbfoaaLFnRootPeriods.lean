/-
  For all bytes the law FnRootPeriods answers true: the period of a root ends with twice its first term and is a palindrome before; the longest period is not less than another one. Conditions: none.
-/
import Derived.Test.YtkjakgemjhbfoaaPal
import Derived.Test.YtkjakgemjhbfoaaRp
import Derived.Test.YtkjakgemjhbfoaaLong
import Derived.Test.YtkjakgemjhbfoaaPr2
import Derived.Test.YtkjakgemjhbfoaaDraw2
namespace Go.Proofs.Ytkjakgemjhbfoaa
open Go.ChangeShapes Go.WideShapes Go.ChangeAt Go.RowKit Go.Joins
open Go.ChangeMaps (open_string shut_string)
set_option linter.unusedVariables false

theorem rp_val {d : Int} (h : pdM d = 0) : rpM d = (((isq d.toNat : Nat) : Int), (List.range (perN d)).map (fun i => trX d (i + 1)), 0) := by
  obtain ⟨h1, h2, h3⟩ := pd_zero h
  obtain ⟨hw, _⟩ := per_spec h
  unfold rpM
  rw [inB_iff.2 ⟨h1, by omega⟩, if_pos rfl, h3, if_neg (by decide), hw]
  refine Prod.ext rfl (Prod.ext ?_ rfl)
  show (tmL d (orb d (0, 1)) (perN d + 1)).drop 1 = _
  rw [tm_eq, List.range_succ_eq_map, List.map_cons, List.drop_succ_cons, List.drop_zero, List.map_map]
  rfl
structure RpFacts (d a0 : Int) (n : Nat) (zs : List Int) : Prop where
  val : rpM d = (a0, zs, 0)
  len : zs.length = n
  pos : 1 ≤ n
  top : n ≤ 400
  last : zs[n - 1]? = some (2 * a0)
  pal : palB (zs.take (n - 1)) = true
  one : 1 ≤ a0
  up : a0 ≤ 1000
  root : rootM d = (a0, false, 0)
theorem rp_facts {d : Int} (h : pdM d = 0) : ∃ a0 zs, RpFacts d a0 (perN d) zs := by
  obtain ⟨a0, R, h1, hl, _⟩ := per_facts h
  obtain ⟨p1, p2, p3⟩ := pd_zero h
  have hz : ∀ k, k < perN d → ((List.range (perN d)).map (fun i => trX d (i + 1)))[k]? = some (trX d (k + 1)) := fun k hk => by simp [hk]
  refine ⟨a0, (List.range (perN d)).map (fun i => trX d (i + 1)), ⟨?_, by simp, h1, (per_spec h).2, ?_, ?_, R.one, R.top, ?_⟩⟩
  · rw [rp_val h, R.isq]
  · rw [hz _ (by omega), show perN d - 1 + 1 = perN d by omega, tr_last R hl]
  · unfold palB
    rw [decide_eq_true_eq]
    intro k hk
    rw [List.length_take, List.length_map, List.length_range] at hk ⊢
    have e1 : min (perN d - 1) (perN d) = perN d - 1 := by omega
    rw [e1] at hk ⊢
    rw [List.getElem?_take, if_pos hk, List.getElem?_take, if_pos (by omega), hz _ (by omega), hz _ (by omega)]
    exact congrArg some (tr_pal R hl (i := k) (j := perN d - 1 - 1 - k) (by omega))
  · unfold rootM
    rw [inB_iff.2 ⟨by omega, by omega⟩, if_pos rfl, R.isq]
    have : (a0 * a0 == d) = false := by
      rw [beq_eq_false_iff_ne]
      have := R.low
      omega
    rw [this]
theorem lg_max {D : Int} {k : Nat} (h1 : 2 ≤ D) (h2 : D < (k : Int) + 2) (h3 : sqB D = false) : perN D ≤ (lgF k).2 := by
  induction k with
  | zero => omega
  | succ k ih =>
    unfold lgF
    by_cases e : D = (k : Int) + 2
    · subst e
      rw [h3]
      simp only [Bool.false_eq_true, if_false]
      split
      · exact Nat.le_refl _
      · omega
    · have ih := ih (by omega)
      split
      · exact ih
      · split
        · simp only; omega
        · exact ih
theorem lg_best {k : Nat} (h : 1 ≤ k) : 2 ≤ (lgF k).1 ∧ (lgF k).1 < (k : Int) + 2 := by
  induction k with
  | zero => omega
  | succ k ih =>
    rcases Nat.eq_zero_or_pos k with e | e
    · subst e
      have h2 : sqB ((0 : Nat) + 2 : Int) = false := by decide +kernel
      have h3 := per_facts (pd_of (d := ((0 : Nat) : Int) + 2) (by decide) (by decide) h2)
      obtain ⟨_, _, h4, _⟩ := h3
      unfold lgF
      rw [h2]
      simp only [Bool.false_eq_true, if_false]
      rw [if_pos (show (lgF 0).2 < perN ((0 : Nat) + 2 : Int) by show 0 < _; omega)]
      simp
    · have ih := ih e
      unfold lgF
      split
      · omega
      · split
        · simp only; omega
        · omega
theorem pr_root {D : Int} (h1 : 2 ≤ D) (h2 : D ≤ 100) : ((prM 0 D 1).2.2 ≠ 0 ∧ sqB D = true) ∨ ((prM 0 D 1).2.2 = 0 ∧ (prM 0 D 1).2.1.length = perN D ∧ sqB D = false) := by
  cases hs : sqB D
  · right
    have hpd := pd_of h1 (show D ≤ 10000 by omega) hs
    obtain ⟨hw, _⟩ := per_spec hpd
    have R := rootD h1 (by omega) hs
    have hk : okS 0 D 1 = true := root_ok0 R
    rw [pr_some hk hw]
    refine ⟨rfl, ?_, rfl⟩
    simp only [List.length_drop, tmL_len]
    omega
  · left
    have hk : okS 0 D 1 = false := by simp [okS, hs]
    rw [pr_bad hk]
    exact ⟨by decide, rfl⟩
set_option maxRecDepth 100000 in
set_option maxHeartbeats 4000000 in
theorem walk_FnRootPeriods (a : Option Addr) (n c : Nat) (zs : List Int) (a' : Option Addr) (n' c' : Nat) (zs' : List Int) (w : World) (hr : IsRow .u8 w a n c zs) (hr' : IsRow .u8 w a' n' c' zs') :
    Calls Try.prog 4 #[.slice a n c, .slice a' n' c'] w (Ret w (.bool true)) := by
  by_cases hl : n ≤ 3000 ∧ n' ≤ 3000
  · obtain ⟨hl1, hl2⟩ := hl
    have hrd := byteRd_of_row hr
    have hrd' := byteRd_of_row hr'
    clear hr hr'
    go_enter Try.func4, Try.ntmps4
    go_wp2_with fail
    apply Calls.mono
    · with_reducible exact a2Long_any _ _ _ _ _ _ false (by simp; omega) _
    rintro _ w1 ⟨rfl, hb_w1⟩
    obtain ⟨hc_w1, hf_w1, hs_w1⟩ := bcell hb_w1
    try simp at hs_w1
    have hrd := hrd.below hb_w1
    have hrd' := hrd'.below hb_w1
    go_wp2_with fail
    apply Calls.mono
    · with_reducible exact a2D_any _ _ _ _ (by omega) hrd
    rintro _ w2 ⟨d, rfl, ⟨hd1, hd2, hd3⟩, hb_w2⟩
    have hrd' := hrd'.below hb_w2
    have hpd : pdM d = 0 := pd_of hd1 (by omega) hd3
    obtain ⟨a0, xs, F⟩ := rp_facts hpd
    have kR := fun w => rootPeriodI_any d w
    have kO := fun w => rootOfI_any d w
    rw [F.val] at kR
    rw [F.root] at kO
    unfold RpP at kR
    simp only at kR kO
    rw [F.len] at kR
    obtain ⟨_, hlen, hpos, htop, hlast, hpal, hone, hup, _⟩ := F
    generalize perN d = m at *
    clear hd3 hpd
    have HLEN := Lib.hid hlen
    have HLAST := Lib.hid hlast
    have HPAL := Lib.hid hpal
    clear hlen hlast hpal
    go_wp2_with fail
    apply Calls.mono
    · with_reducible exact kR _
    rintro _ w3 ⟨v, rfl, hv, hb_w3⟩
    go_wp2_with fail
    apply Calls.mono
    · with_reducible exact kO _
    rintro _ w4 ⟨rfl, hb_w4⟩
    have hv4 := own_below hv hb_w4 (Nat.le_refl _)
    rcases hv4.2 with ⟨_, h0⟩ | ⟨g, cap, cur, rfl, hgb, hg, hnc, hcm, hcs, ht⟩
    · omega
    have hgl : g < w4.heap.size := (Array.getElem?_eq_some_iff.1 hg).1
    have c0 : w4.cell? ⟨g, m - 1, none⟩ = some (.int .i64 (2 * a0)) := (hv4.cellAt (m - 1) (by omega)).trans (ints_get HLAST.out)
    have hm1 : ((m - 1 : Nat) : Int) = (m : Int) - 1 := by omega
    go_wp2_with fail
    have hrdI : Rd w4 1 (.slice (some ⟨g, 0, none⟩) (m - 1) cap) (m - 1) (ints (xs.take (m - 1))) := by
      refine ⟨_, cap, rfl, by omega, hcm, by rw [ints_len, List.length_take, HLEN.out]; omega, .inr ⟨g, 0, rfl, hgl, fun j u hu => ?_⟩⟩
      have hj : j < m - 1 := by
        rcases Nat.lt_or_ge j (m - 1) with h' | h'
        · exact h'
        · rw [List.getElem?_eq_none (by rw [ints_len, List.length_take, HLEN.out]; omega)] at hu; cases hu
      rw [Nat.zero_add]
      refine (hv4.cellAt j (by omega)).trans ?_
      rw [← hu]
      simp only [ints, List.getElem?_map, List.getElem?_take, if_pos hj]
    apply Calls.mono
    · with_reducible exact isPalindromeI_any _ _ _ _ hrdI true HPAL.out
    rintro _ w5 ⟨rfl, hb_w5⟩
    have hrd' := ((hrd'.below hb_w3).below hb_w4).below hb_w5
    have s1 := hb_w1.size
    have s2 := hb_w2.size
    have s3 := hb_w3.size
    have s4 := hb_w4.size
    have s5 := hb_w5.size
    have bel5 : Below w.heap.size w w5 := bthen (bthen (bthen (bthen hb_w1 hb_w2 s1) hb_w3 (by omega)) hb_w4 (by omega)) hb_w5 (by omega)
    clear hrdI hv hv4 hg hcs ht c0 kR kO
    go_wp2_with fail
    apply Calls.mono
    · with_reducible exact a2At_any _ _ _ 0 60 _ hrd' (by omega) (by omega)
    rintro _ w6 ⟨b1, rfl, ⟨b10, b11, b12⟩, hb_w6⟩
    have b11 := b11 (by omega)
    have hrd' := hrd'.below hb_w6
    have hlg : lgM (2 + b1) = ((lgF (2 + b1 - 1).toNat).1, (((lgF (2 + b1 - 1).toNat).2 : Nat) : Int), 0) := by unfold lgM; rw [inB_iff.2 ⟨by omega, by omega⟩]; rfl
    have kL := fun w => longestI_any (2 + b1) w
    rw [hlg] at kL
    obtain ⟨g1, g2⟩ := lg_best (k := (2 + b1 - 1).toNat) (by omega)
    obtain ⟨g3, g4, g5⟩ := lg_bd (2 + b1 - 1).toNat (by omega)
    have hmx : ∀ D : Int, 2 ≤ D → D < 2 + b1 - 1 + 2 → sqB D = false → perN D ≤ (lgF (2 + b1 - 1).toNat).2 := fun D h1 h2 h3 => lg_max h1 (by omega) h3
    have g6 : (lgF (2 + b1 - 1).toNat).1 ≤ 2 + b1 := by omega
    clear g2
    generalize (lgF (2 + b1 - 1).toNat).1 = best at *
    generalize (lgF (2 + b1 - 1).toNat).2 = long at *
    simp only at kL
    have HMX := Lib.hid hmx
    clear hmx hlg
    go_wp2_with fail
    apply Calls.mono
    · with_reducible exact kL _
    rintro _ w7 ⟨rfl, hb_w7⟩
    have hrd' := hrd'.below hb_w7
    clear kL
    go_wp2_with fail
    apply Calls.mono
    · with_reducible exact a2At_any _ _ _ 1 _ _ hrd' (by omega) (by omega)
    rintro _ w8 ⟨b2, rfl, ⟨b20, b21, b22⟩, hb_w8⟩
    have b21 := b21 (by omega)
    have kP := fun w => periodLengthS_any 0 (2 + b2) 1 w
    have hpl : (prM 0 (2 + b2) 1).2.2 ≠ 0 ∨ ((prM 0 (2 + b2) 1).2.2 = 0 ∧ ((prM 0 (2 + b2) 1).2.1.length : Int) ≤ (long : Int)) := by
      rcases pr_root (D := 2 + b2) (by omega) (by omega) with h | ⟨h1, h2, h3⟩
      · exact .inl h.1
      · refine .inr ⟨h1, ?_⟩
        have := HMX.out (2 + b2) (by omega) (by omega) h3
        omega
    generalize (prM 0 (2 + b2) 1).2.1.length = pl at *
    generalize (prM 0 (2 + b2) 1).2.2 = pc at *
    have s6 := hb_w6.size
    have s7 := hb_w7.size
    have s8 := hb_w8.size
    have bel8 : Below w.heap.size w w8 := bthen (bthen (bthen bel5 hb_w6 (by omega)) hb_w7 (by omega)) hb_w8 (by omega)
    rcases hpl with h | ⟨rfl, h⟩
    · have h2 : (pc != 0) = true := by simpa using h
      clear h
      go_wp2_with fail
      apply Calls.mono
      · with_reducible exact kP _
      rintro _ w9 ⟨rfl, hb_w9⟩
      go_wp2
      go_ret
      exact ⟨by first | rfl | simp, bthen bel8 hb_w9 (by omega)⟩
    · go_wp2_with fail
      apply Calls.mono
      · with_reducible exact kP _
      rintro _ w9 ⟨rfl, hb_w9⟩
      go_wp2
      go_ret
      exact ⟨by first | rfl | simp, bthen bel8 hb_w9 (by omega)⟩
  · have hl2 : (decide (n ≤ 3000) && decide (n' ≤ 3000)) = !true := by
      simp only [Bool.not_true, Bool.and_eq_false_iff, decide_eq_false_iff_not]
      omega
    go_enter Try.func4, Try.ntmps4
    go_wp2_with fail
    apply Calls.mono
    · with_reducible exact a2Long_any _ _ _ _ _ _ true hl2 _
    rintro _ w1 ⟨rfl, hb_w1⟩
    obtain ⟨hc_w1, hf_w1, hs_w1⟩ := bcell hb_w1
    try simp at hs_w1
    go_wp2
    go_ret
    refine ⟨by first | rfl | (simp), ?_⟩
    repeat' (first | (with_reducible exact Below.refl _ _) | (with_reducible assumption) | (with_reducible refine Below.alloc ?_ ?_ _) | (with_reducible refine Below.drew ?_) | (with_reducible refine bdrewN ?_ _) | (with_reducible refine Below.setCell ?_ ?_ _) | (with_reducible refine bthen ?_ (by assumption) ?_) | go_size)
set_option maxRecDepth 100000 in
theorem lifted_FnRootPeriods (os : Os) (started : os.Started) (H : Type) (enc : TypeId × Value → H) :
    ReturnsInHanded {} Try.checked os 4 .any (Rows.fnRootPeriodsSpec.pre6 enc Try.prog Try.f4 Rows.fnRootPeriodsRow.domain false) (Rows.fnRootPeriodsSpec.post enc Try.prog Try.f4 false true false false) := by
  refine returnsInHanded_of_change (C := Try.checked) own started (by kernel_rfl) Try.func4
    (ChangeSpec.witness6 (enc := enc) (C := Try.checked) false ⟨#[], #[.slice none 0 0, .slice none 0 0], []⟩ 8 (by kernel_rfl) (by kernel_rfl) (by kernel_rfl) (by kernel_rfl)) ?_
  intro W base args ds gs before hval0 hW hcnd _
  have hval : ∀ (j : Nat) t v, Try.f4.params[j]? = some t → args[j]? = some v → Value.okWide Try.prog W .any base t v := hval0
  have hW' := hW
  obtain ⟨p, q, hA0, hV, rfl, hfz, hnd⟩ := hW
  have hA : DataW.TrodAll enc Try.prog W 0 (fun _ => true) true Try.f4.params.toList args.toList ds p := hA0
  rw [Try.params4] at hA hval
  obtain ⟨v0, vs0, d0, ds0, p0, q0, hargs, rfl, rfl, h0, r0⟩ := trodAll_cons hA
  obtain ⟨v1, vs1, d1, ds1, p1, q1, rfl, rfl, rfl, h1, r1⟩ := trodAll_cons r0
  obtain ⟨rfl, rfl, rfl⟩ := trodAll_nil r1
  obtain rfl : args = #[v0, v1] := by cases args; simp_all
  obtain ⟨rfl, rfl⟩ := trodVars_none hV
  have k0 := h0
  have lt0 : ∀ x ∈ p0, x.block < W.heap.size := by obtain ⟨m, hm⟩ := k0; exact DataW.trod_lt m _ _ _ hm
  obtain ⟨a0, len0, cap0, rfl⟩ := okWide_slice Try.underlying22 (hval 0 22 v0 rfl rfl)
  obtain ⟨z0, ir0⟩ : ∃ zs, IsRow .u8 W a0 len0 cap0 zs := by
    obtain ⟨fuel, hf⟩ := h0
    rcases open_ints Try.underlying22 Try.underlying5 (by kernel_rfl) hf with ⟨hcs, _⟩ | ⟨x, l, c, zs, hcs, _, hl, hm, hz, _, hcell, hwz⟩
    · simp [Value.cells] at hcs
      obtain ⟨rfl, rfl, rfl⟩ := hcs
      exact ⟨[], .inl ⟨rfl, rfl, rfl, rfl⟩⟩
    · simp [Value.cells] at hcs
      obtain ⟨rfl, rfl, rfl⟩ := hcs
      exact ⟨zs, .inr ⟨_, rfl, hl, hm, by simpa using hz, hcell, hwz⟩⟩
  have k1 := h1
  have lt1 : ∀ x ∈ p1, x.block < W.heap.size := by obtain ⟨m, hm⟩ := k1; exact DataW.trod_lt m _ _ _ hm
  obtain ⟨a1, len1, cap1, rfl⟩ := okWide_slice Try.underlying22 (hval 1 22 v1 rfl rfl)
  obtain ⟨z1, ir1⟩ : ∃ zs, IsRow .u8 W a1 len1 cap1 zs := by
    obtain ⟨fuel, hf⟩ := h1
    rcases open_ints Try.underlying22 Try.underlying5 (by kernel_rfl) hf with ⟨hcs, _⟩ | ⟨x, l, c, zs, hcs, _, hl, hm, hz, _, hcell, hwz⟩
    · simp [Value.cells] at hcs
      obtain ⟨rfl, rfl, rfl⟩ := hcs
      exact ⟨[], .inl ⟨rfl, rfl, rfl, rfl⟩⟩
    · simp [Value.cells] at hcs
      obtain ⟨rfl, rfl, rfl⟩ := hcs
      exact ⟨zs, .inr ⟨_, rfl, hl, hm, by simpa using hz, hcell, hwz⟩⟩
  clear hA0 hval0
  refine (walk_FnRootPeriods a0 len0 cap0 z0 a1 len1 cap1 z1 W ir0 ir1).mono fun e W' ⟨he, bel⟩ => ?_
  subst he
  exact ⟨_, rfl, _, _, _, [], _, [], hW', trodAll_mk1 (shut_bool Try.underlying4 _), (trodAll_cons_mk (Below.trod laidOut (by kernel_rfl) (of_decide_eq_true (by kernel_rfl)) k0 bel lt0) (trodAll_cons_mk (Below.trod laidOut (by kernel_rfl) (of_decide_eq_true (by kernel_rfl)) k1 bel lt1) trodAll_mk0)), rfl, bel.frame _, fun h => by cases h⟩
theorem over_FnRootPeriods : Rows.fnRootPeriodsRow.holds Try.pinned (OpenSpec.ofChange Rows.fnRootPeriodsSpec) :=
  OpenClaim.holds_of_wide 4 Try.f4 rfl rfl rfl rfl rfl rfl rfl ⟨rfl, rfl, rfl, rfl, rfl⟩ rfl rfl rfl rfl rfl (by kernel_rfl) Try.func4 (by kernel_rfl)
    (of_decide_eq_true (by kernel_rfl)) (by unfold Func.isWrapper; first | (rw [if_pos (by decide +kernel)]; kernel_rfl) | (rw [if_neg (by decide +kernel)]; exact ⟨rfl, rfl⟩))
    (fun os started H enc _ => lifted_FnRootPeriods os started H enc)
/-- The statement. -/
theorem holds_FnRootPeriods : Rows.FnRootPeriodsSaid := over_FnRootPeriods
#print axioms holds_FnRootPeriods

end Go.Proofs.Ytkjakgemjhbfoaa
