/-
  For all bytes the law FnPell answers true: the told solutions are solutions, no lesser one exists, and further ones are told in order. Conditions: none.
-/
import Derived.Test.YtkjakgemjhbfoaaPi
import Derived.Test.YtkjakgemjhbfoaaDraw2
import Derived.Test.YtkjakgemjhbfoaaTop
import Derived.Test.YtkjakgemjhbfoaaLong
import Derived.Test.YtkjakgemjhbfoaaLaw
namespace Go.Proofs.Ytkjakgemjhbfoaa
open Go.ChangeShapes Go.WideShapes Go.ChangeAt Go.RowKit Go.Joins
open Go.ChangeMaps (open_string shut_string)
set_option linter.unusedVariables false


def A2R (w : World) (k : Nat) (i : Value) (wr : World) : Prop := ∃ t : Nat, t ≤ 199 ∧ 199 ≤ t + k ∧ i = .int .i64 ((t : Int) + 1) ∧ Below w.heap.size w wr
def FewR (w : World) (k : Nat) (i : Value) (wr : World) : Prop := ∃ t : Nat, t ≤ 3 ∧ 3 ≤ t + k ∧ i = .int .i64 (t : Int) ∧ Below w.heap.size w wr
theorem root_no {d y X Y : Int} (hpd : pdM d = 0) (hY : lsY d (perN d) = Y) (h1 : 1 ≤ y) (h2 : y < Y) (h3 : y ≤ 200) : (rootM (d * y * y + 1)).2.1 = false := by
  obtain ⟨p1, p2, _⟩ := pd_zero hpd
  obtain ⟨a0, R, _, _, _, _, e5, hsol⟩ := lp_facts hpd
  have m1 : 0 ≤ y * y ∧ y * y ≤ 40000 := by
    have a := sq_mono (show (0:Int) ≤ 0 by omega) (show 0 ≤ y by omega)
    have b := sq_mono (show 0 ≤ y by omega) h3
    omega
  have m2 : 0 ≤ d * (y * y) ∧ d * (y * y) ≤ 10000 * 40000 := ⟨Int.mul_nonneg (by omega) m1.1, Int.mul_le_mul p2 m1.2 m1.1 (by omega)⟩
  have m3 : d * y * y = d * (y * y) := Int.mul_assoc _ _ _
  unfold rootM
  rw [inB_iff.2 ⟨by omega, by omega⟩, if_pos rfl]
  simp only
  cases he : (((isq (d * y * y + 1).toNat : Nat) : Int) * ((isq (d * y * y + 1).toNat : Nat) : Int) == d * y * y + 1)
  · rfl
  · exfalso
    rw [beq_iff_eq] at he
    have hx0 : (0 : Int) ≤ ((isq (d * y * y + 1).toNat : Nat) : Int) := by omega
    generalize ((isq (d * y * y + 1).toNat : Nat) : Int) = x at *
    have hx : 1 ≤ x := by
      rcases Int.lt_or_le 0 x with g | g
      · omega
      · have : x = 0 := by omega
        subst this
        omega
    obtain ⟨n, n1, n2⟩ := hsol x y hx h1 (by omega)
    have hle := (cv_le R (lpN d) (lpN d * n)).2
    rw [show lpN d + lpN d * n = lpN d * (n + 1) by rw [Nat.mul_succ]; omega, ← n2] at hle
    rw [← e5, hY] at hle
    omega
theorem pc_ok {d x y : Int} (h : pdM d = 0) (h2 : okP d x y = true) : pcM d x y = 0 := by unfold pcM; rw [if_pos h, h2]; rfl
theorem nm_ok {d x y v : Int} (h : pdM d = 0) (h2 : okP d x y = true) (h3 : nmV d x y = v) : nmM d x y = (v, 0) := by simp [nmM, pc_ok h h2, h3]
/-- What is told of d: the unit p, q with its norm; whether it is plain; the least solution X, Y; whether it is plain. -/
structure Told (d : Int) (p q X Y : Int) (u b : Bool) : Prop where
  pd : pdM d = 0
  unit : u = true → okP d p q = true
  p1 : 1 ≤ p
  q1 : 1 ≤ q
  ls : b = true → okP d X Y = true
  x1 : 1 ≤ X
  y1 : 1 ≤ Y
  nx : nmV d X Y = 1
  lx : lsX d (perN d) = X
  ly : lsY d (perN d) = Y
  lb : lsB d (perN d) = b
theorem told_of {d : Int} (h : pdM d = 0) : Told d (cvX d (perN d)).1.1 (cvX d (perN d)).1.2 (lsX d (perN d)) (lsY d (perN d)) (okP d (cvX d (perN d)).1.1 (cvX d (perN d)).1.2) (lsB d (perN d)) := by
  obtain ⟨a0, R, h1, h2, _⟩ := per_facts h
  obtain ⟨n1, n2, n3⟩ := pp_sol h true 0
  have hq := (cv_le R 1 (perN d - 1)).2
  rw [show 1 + (perN d - 1) = perN d by omega] at hq
  have h8 : (cvX d 1).1.2 = 1 := by show trX d 0 * 0 + 1 = 1; omega
  exact ⟨h, fun h => h, (cv_up R _).1, by omega, fun h => ls_ok h, n2, n3, n1, rfl, rfl, rfl⟩
theorem unit_nm {d : Int} (h : pdM d = 0) (ho : perN d % 2 = 1) : nmV d (cvX d (perN d)).1.1 (cvX d (perN d)).1.2 = -1 := by
  obtain ⟨a0, R, h1, h2, _⟩ := per_facts h
  have hn := cv_norm R (perN d)
  unfold nmV
  rw [hn, h2, sg_odd ho]
  rfl
theorem ls_even {d : Int} (ho : perN d % 2 ≠ 1) : lsX d (perN d) = (cvX d (perN d)).1.1 ∧ lsY d (perN d) = (cvX d (perN d)).1.2 ∧ lsB d (perN d) = okP d (cvX d (perN d)).1.1 (cvX d (perN d)).1.2 := by
  refine ⟨?_, ?_, ?_⟩
  · unfold lsX; rw [if_neg ho]
  · unfold lsY; rw [if_neg ho]
  · unfold lsB; rw [if_neg ho, Bool.and_true]
theorem Told.flags {d p q X Y : Int} {u : Bool} (_ : Told d p q X Y u true) {n : Nat} (h : (ppS d X Y true n).2 = true) : ∀ t, t ≤ n → (ppS d X Y true t).2 = true := fun t ht => by
  cases hs : (ppS d X Y true t).2
  · rw [pp_stop hs n ht] at h; exact h
  · rfl
theorem Told.sol {d p q X Y : Int} {u : Bool} (T : Told d p q X Y u true) {k : Nat} (h : ∀ t, t ≤ k → (ppS d X Y true t).2 = true) : SolN d (ppS d X Y true k).1.1 (ppS d X Y true k).1.2 k := by
  refine ⟨pc_ok T.pd (pp_ok (fun _ => T.ls rfl) k (h k (Nat.le_refl _))), ?_, ?_⟩
  · rw [T.lx, T.ly, T.lb]
  · rw [T.lx, T.ly, T.lb]; exact h
theorem Told.up {d p q X Y : Int} {u : Bool} (T : Told d p q X Y u true) (k : Nat) : (ppS d X Y true k).1.2 < (ppS d X Y true (k + 1)).1.2 := by
  have h := pp_up T.pd true k
  rw [T.lx, T.ly] at h
  exact h
theorem Told.list {d p q X Y : Int} {u : Bool} (T : Told d p q X Y u true) : ((ppS d X Y true 2).2 = true → ppM d 3 = ([(X, Y), (ppS d X Y true 1).1, (ppS d X Y true 2).1], 0)) ∧ ((ppS d X Y true 2).2 = false → ppM d 3 = ([], 5)) := by
  have h3 : inB 3 0 50 = true := by decide
  constructor
  · intro h
    unfold ppM
    rw [if_pos T.pd, h3, T.lx, T.ly, T.lb, if_pos rfl]
    rw [if_pos (show ppB d X Y true (3 : Int).toNat = true from h)]
    rfl
  · intro h
    unfold ppM
    rw [if_pos T.pd, h3, T.lx, T.ly, T.lb, if_pos rfl]
    rw [if_neg (by rw [show ppB d X Y true (3 : Int).toNat = false from h]; decide)]
theorem ls_unit {d : Int} (h : lsB d (perN d) = true) : okP d (cvX d (perN d)).1.1 (cvX d (perN d)).1.2 = true := by
  unfold lsB at h
  exact (Bool.and_eq_true_iff.1 h).1

set_option maxRecDepth 100000 in
set_option maxHeartbeats 8000000 in
theorem walk_FnPell (a : Option Addr) (n c : Nat) (zs : List Int) (w : World) (hr : IsRow .u8 w a n c zs) :
    Calls Try.prog 3 #[.slice a n c] w (Ret w (.bool true)) := by
  by_cases hl : n ≤ 3000
  · have hrd := byteRd_of_row hr
    have hl' : ¬ ((n : Int) > 3000) := by omega
    go_enter Try.func3, Try.ntmps3
    go_wp2_with fail
    apply Calls.mono
    · with_reducible exact a2Long_any _ _ _ _ _ _ false (by simp; omega) _
    rintro _ w1 ⟨rfl, hb_w1⟩
    obtain ⟨hc_w1, hf_w1, hs_w1⟩ := bcell hb_w1
    try simp at hs_w1
    have hrd1 := hrd.below hb_w1
    go_wp2_with fail
    apply Calls.mono
    · with_reducible exact a2D_any _ _ _ _ (by omega) hrd1
    rintro _ w2 ⟨d, rfl, ⟨hd1, hd2, hd3⟩, hb_w2⟩
    obtain ⟨hc_w2, hf_w2, hs_w2⟩ := bcell hb_w2
    try simp at hs_w2
    clear hrd hrd1 hr
    have hpd : pdM d = 0 := pd_of hd1 (by omega) hd3
    clear hd3
    have T := told_of hpd
    have hB : lsB d (perN d) = true → okP d (cvX d (perN d)).1.1 (cvX d (perN d)).1.2 = true := ls_unit
    by_cases ho : perN d % 2 = 1
    · have nmu := unit_nm hpd ho
      generalize hp : (cvX d (perN d)).1.1 = p at *
      generalize hq : (cvX d (perN d)).1.2 = q at *
      generalize hX : lsX d (perN d) = X at *
      generalize hY : lsY d (perN d) = Y at *
      clear hX hY
      cases U : okP d p q
      · rw [U] at T hB
        cases B : lsB d (perN d)
        · rw [B] at T
          clear B hB
          have kP := fun w => leastPellI_any d w
          have kN := fun w => leastNegativeI_any d w
          have kH := fun w => hasNegativeI_any d w
          have kU := fun w => unitOfI_any d w
          rw [show lpM d = ((0, 0), 5) by unfold lpM; rw [if_pos hpd, T.lb, T.lx, T.ly]; rfl] at kP
          rw [show lnM d = ((0, 0), 5) by unfold lnM; rw [if_pos hpd, if_pos ho, hp, hq, U]; rfl] at kN
          rw [show hnM d = (true, 0) by unfold hnM; rw [if_pos hpd]; simp [ho]] at kH
          rw [show uoM d = ((0, 0), 0, 5) by unfold uoM; rw [if_pos hpd, hp, hq, U]; rfl] at kU
          have x1 := T.x1
          have y1 := T.y1
          have p1 := T.p1
          have q1 := T.q1
          have nx1 : ¬ X < 1 := by omega
          have ny1 : ¬ Y < 1 := by omega
          have np1 : ¬ p < 1 := by omega
          have nq1 : ¬ q < 1 := by omega
          clear T hpd hp hq ho U nmu
          have hq1 := run_guardP .neq

          go_wp2_with fail
          apply Calls.mono
          · with_reducible exact kP _
          rintro _ w3 ⟨rfl, hb_w3⟩
          obtain ⟨hc_w3, hf_w3, hs_w3⟩ := bcell hb_w3
          try simp at hs_w3
          go_wp2_with fail
          apply Calls.mono
          · with_reducible exact kN _
          rintro _ w4 ⟨rfl, hb_w4⟩
          obtain ⟨hc_w4, hf_w4, hs_w4⟩ := bcell hb_w4
          try simp at hs_w4
          have hz_w4_w30 : w3.heap.size < w4.heap.size := by omega
          have hy_w4_w30 : w3.heap.size ≤ w4.heap.size := by omega
          have hx_w4_w30 : ∀ n : Nat, w3.heap.size < w4.heap.size + n := by intro n; omega
          have hv_w4_w30 : ∀ n : Nat, w3.heap.size ≤ w4.heap.size + n := by intro n; omega
          go_wp2_with fail
          apply Calls.mono
          · with_reducible exact kH _
          rintro _ w5 ⟨rfl, hb_w5⟩
          obtain ⟨hc_w5, hf_w5, hs_w5⟩ := bcell hb_w5
          try simp at hs_w5
          have hz_w5_w30 : w3.heap.size < w5.heap.size := by omega
          have hy_w5_w30 : w3.heap.size ≤ w5.heap.size := by omega
          have hx_w5_w30 : ∀ n : Nat, w3.heap.size < w5.heap.size + n := by intro n; omega
          have hv_w5_w30 : ∀ n : Nat, w3.heap.size ≤ w5.heap.size + n := by intro n; omega
          have hz_w5_w40 : w4.heap.size < w5.heap.size := by omega
          have hy_w5_w40 : w4.heap.size ≤ w5.heap.size := by omega
          have hx_w5_w40 : ∀ n : Nat, w4.heap.size < w5.heap.size + n := by intro n; omega
          have hv_w5_w40 : ∀ n : Nat, w4.heap.size ≤ w5.heap.size + n := by intro n; omega
          go_wp2_with fail
          apply Calls.mono
          · with_reducible exact kU _
          rintro _ w6 ⟨rfl, hb_w6⟩
          obtain ⟨hc_w6, hf_w6, hs_w6⟩ := bcell hb_w6
          try simp at hs_w6
          have hz_w6_w30 : w3.heap.size < w6.heap.size := by omega
          have hy_w6_w30 : w3.heap.size ≤ w6.heap.size := by omega
          have hx_w6_w30 : ∀ n : Nat, w3.heap.size < w6.heap.size + n := by intro n; omega
          have hv_w6_w30 : ∀ n : Nat, w3.heap.size ≤ w6.heap.size + n := by intro n; omega
          have hz_w6_w40 : w4.heap.size < w6.heap.size := by omega
          have hy_w6_w40 : w4.heap.size ≤ w6.heap.size := by omega
          have hx_w6_w40 : ∀ n : Nat, w4.heap.size < w6.heap.size + n := by intro n; omega
          have hv_w6_w40 : ∀ n : Nat, w4.heap.size ≤ w6.heap.size + n := by intro n; omega
          go_wp2_with fail
          go_wp2
          go_ret
          refine ⟨by first | rfl | (simp), ?_⟩
          repeat' (first | (with_reducible exact Below.refl _ _) | (with_reducible assumption) | (with_reducible refine Below.alloc ?_ ?_ _) | (with_reducible refine Below.drew ?_) | (with_reducible refine bdrewN ?_ _) | (with_reducible refine Below.setCell ?_ ?_ _) | (with_reducible refine bthen ?_ (by assumption) ?_) | go_size)

        · exact absurd (hB B) (by decide)
      · rw [U] at T
        clear hB
        cases B : lsB d (perN d)
        · rw [B] at T
          clear B
          have kP := fun w => leastPellI_any d w
          have kN := fun w => leastNegativeI_any d w
          have kH := fun w => hasNegativeI_any d w
          have kU := fun w => unitOfI_any d w
          rw [show lpM d = ((0, 0), 5) by unfold lpM; rw [if_pos hpd, T.lb, T.lx, T.ly]; rfl] at kP
          rw [show lnM d = ((p, q), 0) by unfold lnM; rw [if_pos hpd, if_pos ho, hp, hq, U]; rfl] at kN
          rw [show hnM d = (true, 0) by unfold hnM; rw [if_pos hpd]; simp [ho]] at kH
          rw [show uoM d = ((p, q), -1, 0) by unfold uoM; rw [if_pos hpd, hp, hq, U, sg_odd ho]; rfl] at kU
          have oku := T.unit rfl
          have kV := fun w => normOfS_any d p q w
          rw [nm_ok hpd oku nmu] at kV
          have x1 := T.x1
          have y1 := T.y1
          have p1 := T.p1
          have q1 := T.q1
          have nx1 : ¬ X < 1 := by omega
          have ny1 : ¬ Y < 1 := by omega
          have np1 : ¬ p < 1 := by omega
          have nq1 : ¬ q < 1 := by omega
          clear T hpd hp hq ho U oku nmu
          have hq1 := run_guardP .neq
          have hq2 := run_neP p q p q false (by simp)

          go_wp2_with fail
          apply Calls.mono
          · with_reducible exact kP _
          rintro _ w3 ⟨rfl, hb_w3⟩
          obtain ⟨hc_w3, hf_w3, hs_w3⟩ := bcell hb_w3
          try simp at hs_w3
          go_wp2_with fail
          apply Calls.mono
          · with_reducible exact kN _
          rintro _ w4 ⟨rfl, hb_w4⟩
          obtain ⟨hc_w4, hf_w4, hs_w4⟩ := bcell hb_w4
          try simp at hs_w4
          have hz_w4_w30 : w3.heap.size < w4.heap.size := by omega
          have hy_w4_w30 : w3.heap.size ≤ w4.heap.size := by omega
          have hx_w4_w30 : ∀ n : Nat, w3.heap.size < w4.heap.size + n := by intro n; omega
          have hv_w4_w30 : ∀ n : Nat, w3.heap.size ≤ w4.heap.size + n := by intro n; omega
          go_wp2_with fail
          apply Calls.mono
          · with_reducible exact kH _
          rintro _ w5 ⟨rfl, hb_w5⟩
          obtain ⟨hc_w5, hf_w5, hs_w5⟩ := bcell hb_w5
          try simp at hs_w5
          have hz_w5_w30 : w3.heap.size < w5.heap.size := by omega
          have hy_w5_w30 : w3.heap.size ≤ w5.heap.size := by omega
          have hx_w5_w30 : ∀ n : Nat, w3.heap.size < w5.heap.size + n := by intro n; omega
          have hv_w5_w30 : ∀ n : Nat, w3.heap.size ≤ w5.heap.size + n := by intro n; omega
          have hz_w5_w40 : w4.heap.size < w5.heap.size := by omega
          have hy_w5_w40 : w4.heap.size ≤ w5.heap.size := by omega
          have hx_w5_w40 : ∀ n : Nat, w4.heap.size < w5.heap.size + n := by intro n; omega
          have hv_w5_w40 : ∀ n : Nat, w4.heap.size ≤ w5.heap.size + n := by intro n; omega
          go_wp2_with fail
          apply Calls.mono
          · with_reducible exact kU _
          rintro _ w6 ⟨rfl, hb_w6⟩
          obtain ⟨hc_w6, hf_w6, hs_w6⟩ := bcell hb_w6
          try simp at hs_w6
          have hz_w6_w30 : w3.heap.size < w6.heap.size := by omega
          have hy_w6_w30 : w3.heap.size ≤ w6.heap.size := by omega
          have hx_w6_w30 : ∀ n : Nat, w3.heap.size < w6.heap.size + n := by intro n; omega
          have hv_w6_w30 : ∀ n : Nat, w3.heap.size ≤ w6.heap.size + n := by intro n; omega
          have hz_w6_w40 : w4.heap.size < w6.heap.size := by omega
          have hy_w6_w40 : w4.heap.size ≤ w6.heap.size := by omega
          have hx_w6_w40 : ∀ n : Nat, w4.heap.size < w6.heap.size + n := by intro n; omega
          have hv_w6_w40 : ∀ n : Nat, w4.heap.size ≤ w6.heap.size + n := by intro n; omega
          go_wp2_with fail
          go_wp2_with fail
          apply Calls.mono
          · with_reducible exact kV _
          rintro _ w7 ⟨rfl, hb_w7⟩
          obtain ⟨hc_w7, hf_w7, hs_w7⟩ := bcell hb_w7
          try simp at hs_w7
          have hz_w7_w30 : w3.heap.size < w7.heap.size := by omega
          have hy_w7_w30 : w3.heap.size ≤ w7.heap.size := by omega
          have hx_w7_w30 : ∀ n : Nat, w3.heap.size < w7.heap.size + n := by intro n; omega
          have hv_w7_w30 : ∀ n : Nat, w3.heap.size ≤ w7.heap.size + n := by intro n; omega
          have hz_w7_w40 : w4.heap.size < w7.heap.size := by omega
          have hy_w7_w40 : w4.heap.size ≤ w7.heap.size := by omega
          have hx_w7_w40 : ∀ n : Nat, w4.heap.size < w7.heap.size + n := by intro n; omega
          have hv_w7_w40 : ∀ n : Nat, w4.heap.size ≤ w7.heap.size + n := by intro n; omega
          have hz_w7_w60 : w6.heap.size < w7.heap.size := by omega
          have hy_w7_w60 : w6.heap.size ≤ w7.heap.size := by omega
          have hx_w7_w60 : ∀ n : Nat, w6.heap.size < w7.heap.size + n := by intro n; omega
          have hv_w7_w60 : ∀ n : Nat, w6.heap.size ≤ w7.heap.size + n := by intro n; omega
          go_wp2
          go_ret
          refine ⟨by first | rfl | (simp), ?_⟩
          repeat' (first | (with_reducible exact Below.refl _ _) | (with_reducible assumption) | (with_reducible refine Below.alloc ?_ ?_ _) | (with_reducible refine Below.drew ?_) | (with_reducible refine bdrewN ?_ _) | (with_reducible refine Below.setCell ?_ ?_ _) | (with_reducible refine bthen ?_ (by assumption) ?_) | go_size)

        · rw [B] at T
          clear B
          have kP := fun w => leastPellI_any d w
          have kN := fun w => leastNegativeI_any d w
          have kH := fun w => hasNegativeI_any d w
          have kU := fun w => unitOfI_any d w
          rw [show lpM d = ((X, Y), 0) by unfold lpM; rw [if_pos hpd, T.lb, T.lx, T.ly]; rfl] at kP
          rw [show lnM d = ((p, q), 0) by unfold lnM; rw [if_pos hpd, if_pos ho, hp, hq, U]; rfl] at kN
          rw [show hnM d = (true, 0) by unfold hnM; rw [if_pos hpd]; simp [ho]] at kH
          rw [show uoM d = ((p, q), -1, 0) by unfold uoM; rw [if_pos hpd, hp, hq, U, sg_odd ho]; rfl] at kU
          have okb := T.ls rfl
          have kL := fun w => normOfS_any d X Y w
          rw [nm_ok hpd okb T.nx] at kL
          have oku := T.unit rfl
          have kV := fun w => normOfS_any d p q w
          rw [nm_ok hpd oku nmu] at kV
          have x1 := T.x1
          have y1 := T.y1
          have p1 := T.p1
          have q1 := T.q1
          have nx1 : ¬ X < 1 := by omega
          have ny1 : ¬ Y < 1 := by omega
          have np1 : ¬ p < 1 := by omega
          have nq1 : ¬ q < 1 := by omega
          have HPD := Lib.hid hpd
          have HT := Lib.hid T
          clear T hpd hp hq ho U oku nmu
          have hq1 := run_guardP .neq
          have hq2 := run_neP p q p q false (by simp)

          go_wp2_with fail
          apply Calls.mono
          · with_reducible exact kP _
          rintro _ w3 ⟨rfl, hb_w3⟩
          obtain ⟨hc_w3, hf_w3, hs_w3⟩ := bcell hb_w3
          try simp at hs_w3
          go_wp2_with fail
          apply Calls.mono
          · with_reducible exact kN _
          rintro _ w4 ⟨rfl, hb_w4⟩
          obtain ⟨hc_w4, hf_w4, hs_w4⟩ := bcell hb_w4
          try simp at hs_w4
          have hz_w4_w30 : w3.heap.size < w4.heap.size := by omega
          have hy_w4_w30 : w3.heap.size ≤ w4.heap.size := by omega
          have hx_w4_w30 : ∀ n : Nat, w3.heap.size < w4.heap.size + n := by intro n; omega
          have hv_w4_w30 : ∀ n : Nat, w3.heap.size ≤ w4.heap.size + n := by intro n; omega
          go_wp2_with fail
          apply Calls.mono
          · with_reducible exact kH _
          rintro _ w5 ⟨rfl, hb_w5⟩
          obtain ⟨hc_w5, hf_w5, hs_w5⟩ := bcell hb_w5
          try simp at hs_w5
          have hz_w5_w30 : w3.heap.size < w5.heap.size := by omega
          have hy_w5_w30 : w3.heap.size ≤ w5.heap.size := by omega
          have hx_w5_w30 : ∀ n : Nat, w3.heap.size < w5.heap.size + n := by intro n; omega
          have hv_w5_w30 : ∀ n : Nat, w3.heap.size ≤ w5.heap.size + n := by intro n; omega
          have hz_w5_w40 : w4.heap.size < w5.heap.size := by omega
          have hy_w5_w40 : w4.heap.size ≤ w5.heap.size := by omega
          have hx_w5_w40 : ∀ n : Nat, w4.heap.size < w5.heap.size + n := by intro n; omega
          have hv_w5_w40 : ∀ n : Nat, w4.heap.size ≤ w5.heap.size + n := by intro n; omega
          go_wp2_with fail
          apply Calls.mono
          · with_reducible exact kU _
          rintro _ w6 ⟨rfl, hb_w6⟩
          obtain ⟨hc_w6, hf_w6, hs_w6⟩ := bcell hb_w6
          try simp at hs_w6
          have hz_w6_w30 : w3.heap.size < w6.heap.size := by omega
          have hy_w6_w30 : w3.heap.size ≤ w6.heap.size := by omega
          have hx_w6_w30 : ∀ n : Nat, w3.heap.size < w6.heap.size + n := by intro n; omega
          have hv_w6_w30 : ∀ n : Nat, w3.heap.size ≤ w6.heap.size + n := by intro n; omega
          have hz_w6_w40 : w4.heap.size < w6.heap.size := by omega
          have hy_w6_w40 : w4.heap.size ≤ w6.heap.size := by omega
          have hx_w6_w40 : ∀ n : Nat, w4.heap.size < w6.heap.size + n := by intro n; omega
          have hv_w6_w40 : ∀ n : Nat, w4.heap.size ≤ w6.heap.size + n := by intro n; omega
          go_wp2_with fail
          go_wp2_with fail
          apply Calls.mono
          · with_reducible exact kV _
          rintro _ w7 ⟨rfl, hb_w7⟩
          obtain ⟨hc_w7, hf_w7, hs_w7⟩ := bcell hb_w7
          try simp at hs_w7
          have hz_w7_w30 : w3.heap.size < w7.heap.size := by omega
          have hy_w7_w30 : w3.heap.size ≤ w7.heap.size := by omega
          have hx_w7_w30 : ∀ n : Nat, w3.heap.size < w7.heap.size + n := by intro n; omega
          have hv_w7_w30 : ∀ n : Nat, w3.heap.size ≤ w7.heap.size + n := by intro n; omega
          have hz_w7_w40 : w4.heap.size < w7.heap.size := by omega
          have hy_w7_w40 : w4.heap.size ≤ w7.heap.size := by omega
          have hx_w7_w40 : ∀ n : Nat, w4.heap.size < w7.heap.size + n := by intro n; omega
          have hv_w7_w40 : ∀ n : Nat, w4.heap.size ≤ w7.heap.size + n := by intro n; omega
          have hz_w7_w60 : w6.heap.size < w7.heap.size := by omega
          have hy_w7_w60 : w6.heap.size ≤ w7.heap.size := by omega
          have hx_w7_w60 : ∀ n : Nat, w6.heap.size < w7.heap.size + n := by intro n; omega
          have hv_w7_w60 : ∀ n : Nat, w6.heap.size ≤ w7.heap.size + n := by intro n; omega
          go_wp2_with fail
          apply Calls.mono
          · with_reducible exact kL _
          rintro _ w8 ⟨rfl, hb_w8⟩
          obtain ⟨hc_w8, hf_w8, hs_w8⟩ := bcell hb_w8
          try simp at hs_w8
          have hz_w8_w30 : w3.heap.size < w8.heap.size := by omega
          have hy_w8_w30 : w3.heap.size ≤ w8.heap.size := by omega
          have hx_w8_w30 : ∀ n : Nat, w3.heap.size < w8.heap.size + n := by intro n; omega
          have hv_w8_w30 : ∀ n : Nat, w3.heap.size ≤ w8.heap.size + n := by intro n; omega
          have hz_w8_w40 : w4.heap.size < w8.heap.size := by omega
          have hy_w8_w40 : w4.heap.size ≤ w8.heap.size := by omega
          have hx_w8_w40 : ∀ n : Nat, w4.heap.size < w8.heap.size + n := by intro n; omega
          have hv_w8_w40 : ∀ n : Nat, w4.heap.size ≤ w8.heap.size + n := by intro n; omega
          have hz_w8_w60 : w6.heap.size < w8.heap.size := by omega
          have hy_w8_w60 : w6.heap.size ≤ w8.heap.size := by omega
          have hx_w8_w60 : ∀ n : Nat, w6.heap.size < w8.heap.size + n := by intro n; omega
          have hv_w8_w60 : ∀ n : Nat, w6.heap.size ≤ w8.heap.size + n := by intro n; omega
          have k4 := (Blk.new w3 26 #[.int .i64 X, .int .i64 Y]).below hb_w4 (by simp)
          have k5 := (k4.alloc _).below hb_w5 (by simp; omega)
          have k6 := k5.below hb_w6 (by omega)
          have k7 := (k6.alloc _).below hb_w7 (by simp; omega)
          have k8 := k7.below hb_w8 (by omega)
          have bel8 : Below w.heap.size w w8 := by repeat' (first | (with_reducible exact Below.refl _ _) | (with_reducible assumption) | (with_reducible refine Below.alloc ?_ ?_ _) | (with_reducible refine Below.drew ?_) | (with_reducible refine bdrewN ?_ _) | (with_reducible refine Below.setCell ?_ ?_ _) | (with_reducible refine bthen ?_ (by assumption) ?_) | go_size)
          have hP8 : w3.heap.size < w8.heap.size := by omega
          have z0 : w8.cell? ⟨w3.heap.size, 0, none⟩ = some (.int .i64 X) := k8.cell 0
          have z1 : w8.cell? ⟨w3.heap.size, 1, none⟩ = some (.int .i64 Y) := k8.cell 1
          have T := HT.out
          have hlist := T.list
          have hup1 := T.up 0
          have hup2 := T.up 1
          have hfl := fun n h => T.flags (n := n) h
          have hsol := fun k h => T.sol (k := k) h
          have hroot := fun (y : Int) => @root_no d y X Y HPD.out T.ly
          obtain ⟨⟨x2, y2⟩, e2⟩ : ∃ z, (ppS d X Y true 1).1 = z := ⟨_, rfl⟩
          obtain ⟨⟨x3, y3⟩, e3⟩ : ∃ z, (ppS d X Y true 2).1 = z := ⟨_, rfl⟩
          have hs0 := hsol 0
          have hs1 := hsol 1
          have hs2 := hsol 2
          have e1 : (ppS d X Y true 0).1 = (X, Y) := rfl
          rw [e2, e3] at hlist hup2
          rw [e1, e2] at hup1
          rw [e1] at hs0
          rw [e2] at hs1
          rw [e3] at hs2
          simp only at hup1 hup2 hs0 hs1 hs2
          have HS0 := Lib.hid hs0
          have HS1 := Lib.hid hs1
          have HS2 := Lib.hid hs2
          have HFL := Lib.hid hfl
          have HLI := Lib.hid hlist
          have HRT := Lib.hid hroot
          generalize hfg : (ppS d X Y true 2).2 = fg at *
          have HFG := Lib.hid hfg
          have q1 := run_guardP .neq
          have q2 := run_neP X Y X Y false (by simp)
          clear hsol hs0 hs1 hs2 hfl hlist hroot hfg e1 e2 e3 T HT HPD kP kN kH kU kL k4 k5 k6 hb_w1 hb_w2 hb_w3 hb_w4 hb_w5 hb_w6 hb_w8 hc_w1 hc_w2 hc_w3 hc_w4 hc_w5 hc_w6 hc_w8 hf_w1 hf_w2 hf_w3 hf_w4 hf_w5 hf_w6 hf_w8 hb_w7 hc_w7 hf_w7 k7 kV
          go_wp2_with fail
          go_loopg [17] 199 (A2R w8)
          case atStart => exact ⟨0, by omega, by omega, by simp, Below.refl _ _⟩
          case round =>
            obtain ⟨t, ht1, ht2, rfl, hbw⟩ := hrel
            have qr := hbw.size
            have kr := k8.below hbw hP8
            have c0 : wr.cell? ⟨w3.heap.size, 0, none⟩ = some (.int .i64 X) := kr.cell 0
            have c1 : wr.cell? ⟨w3.heap.size, 1, none⟩ = some (.int .i64 Y) := kr.cell 1
            by_cases hin : (t : Int) + 1 < Y ∧ (t : Int) + 1 < 200
            · obtain ⟨hi1, hi2⟩ := hin
              have hR := HRT.out ((t : Int) + 1) (by omega) hi1 (by omega)
              have kR := fun w => rootOfS_any (d * ((t : Int) + 1) * ((t : Int) + 1) + 1) w
              rw [hR] at kR
              have m1 : 0 ≤ d * ((t : Int) + 1) ∧ d * ((t : Int) + 1) ≤ 702 * 200 := ⟨Int.mul_nonneg (by omega) (by omega), Int.mul_le_mul hd2 (by omega) (by omega) (by omega)⟩
              have m2 : 0 ≤ d * ((t : Int) + 1) * ((t : Int) + 1) ∧ d * ((t : Int) + 1) * ((t : Int) + 1) ≤ 702 * 200 * 200 := ⟨Int.mul_nonneg m1.1 (by omega), Int.mul_le_mul m1.2 (by omega) (by omega) (by omega)⟩
              clear hR
              generalize (rootM (d * ((t : Int) + 1) * ((t : Int) + 1) + 1)).1 = v1 at *
              generalize (rootM (d * ((t : Int) + 1) * ((t : Int) + 1) + 1)).2.2 = v3 at *
              go_wp2_with fail
              apply Calls.mono
              · with_reducible exact kR _
              rintro _ wi ⟨rfl, hb_wi⟩
              go_wp2
              go_roundg (gk - 1)
              case measure => omega
              case rel => exact ⟨t + 1, by omega, by omega, by go_num, bthen hbw hb_wi qr⟩
            · have kPP := fun w => pellPairsI_any d 3 w
              unfold PpP at kPP
              have bel9 := bthen bel8 hbw (by have := bel8.size; omega)
              have HIN := Lib.hid hin
              clear hin
              cases fg
              · rw [HLI.out.2 rfl] at kPP
                simp only at kPP
                by_cases hi1 : (t : Int) + 1 < Y
                · have hi2 : ¬ (t : Int) + 1 < 200 := fun h => HIN.out ⟨hi1, h⟩
                  go_wp2_with fail
                  apply Calls.mono
                  · with_reducible exact kPP _
                  rintro _ w9 ⟨v, rfl, hv, hb_w9⟩
                  go_wp2
                  go_ret
                  exact ⟨rfl, bthen bel9 hb_w9 bel9.size⟩
                · go_wp2_with fail
                  apply Calls.mono
                  · with_reducible exact kPP _
                  rintro _ w9 ⟨v, rfl, hv, hb_w9⟩
                  go_wp2
                  go_ret
                  exact ⟨rfl, bthen bel9 hb_w9 bel9.size⟩
              · rw [HLI.out.1 rfl] at kPP
                have fl2 := HFL.out 2 HFG.out
                have S0 := Lib.hid (HS0.out (fun t ht => fl2 t (by omega)))
                have S1 := Lib.hid (HS1.out (fun t ht => fl2 t (by omega)))
                have S2 := Lib.hid (HS2.out (fun t ht => fl2 t (by omega)))
                have hL : ∀ (w : World) (v : Value), w.ownsRow wr.heap.size 26 2 v 3 (prs [(X, Y), (x2, y2), (x3, y3)]) → ∃ g cap, v = .slice (some ⟨g, 0, none⟩) 3 cap ∧ g < w.heap.size ∧ w.cell? ⟨g, 0, none⟩ = some (.int .i64 X) ∧ w.cell? ⟨g, 1, none⟩ = some (.int .i64 Y) ∧ w.cell? ⟨g, 2, none⟩ = some (.int .i64 x2) ∧ w.cell? ⟨g, 3, none⟩ = some (.int .i64 y2) ∧ w.cell? ⟨g, 4, none⟩ = some (.int .i64 x3) ∧ w.cell? ⟨g, 5, none⟩ = some (.int .i64 y3) := by
                  intro w v hv
                  have hv2 := hv
                  rcases hv.2 with ⟨_, h0⟩ | ⟨g, cap, cur, rfl, hgb, hg, hnc, hcm, hcs, ht⟩
                  · simp at h0
                  · exact ⟨g, cap, rfl, (Array.getElem?_eq_some_iff.1 hg).1, hv2.cellAt 0 (by omega), hv2.cellAt 1 (by omega), hv2.cellAt 2 (by omega), hv2.cellAt 3 (by omega), hv2.cellAt 4 (by omega), hv2.cellAt 5 (by omega)⟩
                clear fl2
                by_cases hi1 : (t : Int) + 1 < Y
                · have hi2 : ¬ (t : Int) + 1 < 200 := fun h => HIN.out ⟨hi1, h⟩
                  go_wp2_with fail
                  apply Calls.mono
                  · with_reducible exact kPP _
                  rintro _ w9 ⟨v, rfl, hv, hb_w9⟩
                  obtain ⟨g, cap, rfl, hgl, e0, e1, e2, e3, e4, e5⟩ := hL _ _ hv
                  clear hv hL
                  have q9 := hb_w9.size
                  have k9 := kr.below hb_w9 (by omega)
                  have bel10 := bthen bel9 hb_w9 bel9.size
                  have i0 : w9.cell? ⟨w3.heap.size, 0, none⟩ = some (.int .i64 X) := k9.cell 0
                  have i1 : w9.cell? ⟨w3.heap.size, 1, none⟩ = some (.int .i64 Y) := k9.cell 1
                  have i2 : w3.heap.size < w9.heap.size := k9.lt
                  go_wp2_with fail
                  refine wp_region_calm (by kernel_rfl) (by kernel_rfl) ?_
                  repeat (go_big_quiet_step (fail))
                  refine wpQuiet_nil ?_
                  intro w10 hb_w10
                  have qa := hb_w10.size
                  have bel11 := bthen bel10 hb_w10 bel10.size
                  have gx : g < w10.heap.size := by omega
                  have e0 := (hb_w10.cell (p := ⟨g, 0, none⟩) hgl).trans e0
                  have e1 := (hb_w10.cell (p := ⟨g, 1, none⟩) hgl).trans e1
                  have e2 := (hb_w10.cell (p := ⟨g, 2, none⟩) hgl).trans e2
                  have e3 := (hb_w10.cell (p := ⟨g, 3, none⟩) hgl).trans e3
                  have e4 := (hb_w10.cell (p := ⟨g, 4, none⟩) hgl).trans e4
                  have e5 := (hb_w10.cell (p := ⟨g, 5, none⟩) hgl).trans e5
                  clear c0 c1 i0 i1
                  go_wp2_with fail
                  go_loopg [23] 3 (FewR w10)
                  case atStart => exact ⟨0, by omega, by omega, rfl, Below.refl _ _⟩
                  case round =>
                    obtain ⟨j, hj1, hj2, rfl, hbv⟩ := hrel
                    have qv := hbv.size
                    have hgw : g < w10.heap.size := gx
                    have hgr : g < wr.heap.size := by omega
                    rcases (show j = 0 ∨ j = 1 ∨ j = 2 ∨ j = 3 by omega) with rfl | rfl | rfl | rfl
                    · have d0 : wr.cell? ⟨g, 0, none⟩ = some (.int .i64 X) := (hbv.cell (p := ⟨g, 0, none⟩) hgw).trans e0
                      have d1 : wr.cell? ⟨g, 1, none⟩ = some (.int .i64 Y) := (hbv.cell (p := ⟨g, 1, none⟩) hgw).trans e1
                      have kI := fun w => pellIndexI_sol d X Y 0 S0.out w
                      go_wp2_with fail
                      apply Calls.mono
                      · with_reducible exact kI _
                      rintro _ wi ⟨rfl, hb_wi⟩
                      obtain ⟨hc_wi, hf_wi, hs_wi⟩ := bcell hb_wi
                      have hgi : g < wi.heap.size := by omega
                      go_wp2_with fail
                      refine wp_region_calm (by kernel_rfl) (by kernel_rfl) ?_
                      repeat (go_big_quiet_step (fail))
                      refine wpQuiet_nil ?_
                      intro wj hb_wj
                      go_wp2
                      go_roundg (gk - 1)
                      case measure => omega
                      case rel => exact ⟨1, by omega, by omega, by first | rfl | go_num, bthen (bthen hbv hb_wi hbv.size) hb_wj (by have := hbv.size; omega)⟩
                    · have d0 : wr.cell? ⟨g, 2, none⟩ = some (.int .i64 x2) := (hbv.cell (p := ⟨g, 2, none⟩) hgw).trans e2
                      have d1 : wr.cell? ⟨g, 3, none⟩ = some (.int .i64 y2) := (hbv.cell (p := ⟨g, 3, none⟩) hgw).trans e3
                      have d2 : wr.cell? ⟨g, 1, none⟩ = some (.int .i64 Y) := (hbv.cell (p := ⟨g, 1, none⟩) hgw).trans e1
                      have kI := fun w => pellIndexI_sol d x2 y2 1 S1.out w
                      go_wp2_with fail
                      apply Calls.mono
                      · with_reducible exact kI _
                      rintro _ wi ⟨rfl, hb_wi⟩
                      obtain ⟨hc_wi, hf_wi, hs_wi⟩ := bcell hb_wi
                      have hgi : g < wi.heap.size := by omega
                      go_wp2_with fail
                      refine wp_region_calm (by kernel_rfl) (by kernel_rfl) ?_
                      repeat (go_big_quiet_step (fail))
                      refine wpQuiet_nil ?_
                      intro wj hb_wj
                      go_wp2
                      go_roundg (gk - 1)
                      case measure => omega
                      case rel => exact ⟨2, by omega, by omega, by first | rfl | go_num, bthen (bthen hbv hb_wi hbv.size) hb_wj (by have := hbv.size; omega)⟩
                    · have d0 : wr.cell? ⟨g, 4, none⟩ = some (.int .i64 x3) := (hbv.cell (p := ⟨g, 4, none⟩) hgw).trans e4
                      have d1 : wr.cell? ⟨g, 5, none⟩ = some (.int .i64 y3) := (hbv.cell (p := ⟨g, 5, none⟩) hgw).trans e5
                      have d2 : wr.cell? ⟨g, 3, none⟩ = some (.int .i64 y2) := (hbv.cell (p := ⟨g, 3, none⟩) hgw).trans e3
                      have kI := fun w => pellIndexI_sol d x3 y3 2 S2.out w
                      go_wp2_with fail
                      apply Calls.mono
                      · with_reducible exact kI _
                      rintro _ wi ⟨rfl, hb_wi⟩
                      obtain ⟨hc_wi, hf_wi, hs_wi⟩ := bcell hb_wi
                      have hgi : g < wi.heap.size := by omega
                      go_wp2_with fail
                      refine wp_region_calm (by kernel_rfl) (by kernel_rfl) ?_
                      repeat (go_big_quiet_step (fail))
                      refine wpQuiet_nil ?_
                      intro wj hb_wj
                      go_wp2
                      go_roundg (gk - 1)
                      case measure => omega
                      case rel => exact ⟨3, by omega, by omega, by first | rfl | go_num, bthen (bthen hbv hb_wi hbv.size) hb_wj (by have := hbv.size; omega)⟩
                    · go_wp2
                      go_ret
                      exact ⟨rfl, bthen bel11 hbv (by have := bel11.size; omega)⟩
                · go_wp2_with fail
                  apply Calls.mono
                  · with_reducible exact kPP _
                  rintro _ w9 ⟨v, rfl, hv, hb_w9⟩
                  obtain ⟨g, cap, rfl, hgl, e0, e1, e2, e3, e4, e5⟩ := hL _ _ hv
                  clear hv hL
                  have q9 := hb_w9.size
                  have k9 := kr.below hb_w9 (by omega)
                  have bel10 := bthen bel9 hb_w9 bel9.size
                  have i0 : w9.cell? ⟨w3.heap.size, 0, none⟩ = some (.int .i64 X) := k9.cell 0
                  have i1 : w9.cell? ⟨w3.heap.size, 1, none⟩ = some (.int .i64 Y) := k9.cell 1
                  have i2 : w3.heap.size < w9.heap.size := k9.lt
                  go_wp2_with fail
                  refine wp_region_calm (by kernel_rfl) (by kernel_rfl) ?_
                  repeat (go_big_quiet_step (fail))
                  refine wpQuiet_nil ?_
                  intro w10 hb_w10
                  have qa := hb_w10.size
                  have bel11 := bthen bel10 hb_w10 bel10.size
                  have gx : g < w10.heap.size := by omega
                  have e0 := (hb_w10.cell (p := ⟨g, 0, none⟩) hgl).trans e0
                  have e1 := (hb_w10.cell (p := ⟨g, 1, none⟩) hgl).trans e1
                  have e2 := (hb_w10.cell (p := ⟨g, 2, none⟩) hgl).trans e2
                  have e3 := (hb_w10.cell (p := ⟨g, 3, none⟩) hgl).trans e3
                  have e4 := (hb_w10.cell (p := ⟨g, 4, none⟩) hgl).trans e4
                  have e5 := (hb_w10.cell (p := ⟨g, 5, none⟩) hgl).trans e5
                  clear c0 c1 i0 i1
                  go_wp2_with fail
                  go_loopg [23] 3 (FewR w10)
                  case atStart => exact ⟨0, by omega, by omega, rfl, Below.refl _ _⟩
                  case round =>
                    obtain ⟨j, hj1, hj2, rfl, hbv⟩ := hrel
                    have qv := hbv.size
                    have hgw : g < w10.heap.size := gx
                    have hgr : g < wr.heap.size := by omega
                    rcases (show j = 0 ∨ j = 1 ∨ j = 2 ∨ j = 3 by omega) with rfl | rfl | rfl | rfl
                    · have d0 : wr.cell? ⟨g, 0, none⟩ = some (.int .i64 X) := (hbv.cell (p := ⟨g, 0, none⟩) hgw).trans e0
                      have d1 : wr.cell? ⟨g, 1, none⟩ = some (.int .i64 Y) := (hbv.cell (p := ⟨g, 1, none⟩) hgw).trans e1
                      have kI := fun w => pellIndexI_sol d X Y 0 S0.out w
                      go_wp2_with fail
                      apply Calls.mono
                      · with_reducible exact kI _
                      rintro _ wi ⟨rfl, hb_wi⟩
                      obtain ⟨hc_wi, hf_wi, hs_wi⟩ := bcell hb_wi
                      have hgi : g < wi.heap.size := by omega
                      go_wp2_with fail
                      refine wp_region_calm (by kernel_rfl) (by kernel_rfl) ?_
                      repeat (go_big_quiet_step (fail))
                      refine wpQuiet_nil ?_
                      intro wj hb_wj
                      go_wp2
                      go_roundg (gk - 1)
                      case measure => omega
                      case rel => exact ⟨1, by omega, by omega, by first | rfl | go_num, bthen (bthen hbv hb_wi hbv.size) hb_wj (by have := hbv.size; omega)⟩
                    · have d0 : wr.cell? ⟨g, 2, none⟩ = some (.int .i64 x2) := (hbv.cell (p := ⟨g, 2, none⟩) hgw).trans e2
                      have d1 : wr.cell? ⟨g, 3, none⟩ = some (.int .i64 y2) := (hbv.cell (p := ⟨g, 3, none⟩) hgw).trans e3
                      have d2 : wr.cell? ⟨g, 1, none⟩ = some (.int .i64 Y) := (hbv.cell (p := ⟨g, 1, none⟩) hgw).trans e1
                      have kI := fun w => pellIndexI_sol d x2 y2 1 S1.out w
                      go_wp2_with fail
                      apply Calls.mono
                      · with_reducible exact kI _
                      rintro _ wi ⟨rfl, hb_wi⟩
                      obtain ⟨hc_wi, hf_wi, hs_wi⟩ := bcell hb_wi
                      have hgi : g < wi.heap.size := by omega
                      go_wp2_with fail
                      refine wp_region_calm (by kernel_rfl) (by kernel_rfl) ?_
                      repeat (go_big_quiet_step (fail))
                      refine wpQuiet_nil ?_
                      intro wj hb_wj
                      go_wp2
                      go_roundg (gk - 1)
                      case measure => omega
                      case rel => exact ⟨2, by omega, by omega, by first | rfl | go_num, bthen (bthen hbv hb_wi hbv.size) hb_wj (by have := hbv.size; omega)⟩
                    · have d0 : wr.cell? ⟨g, 4, none⟩ = some (.int .i64 x3) := (hbv.cell (p := ⟨g, 4, none⟩) hgw).trans e4
                      have d1 : wr.cell? ⟨g, 5, none⟩ = some (.int .i64 y3) := (hbv.cell (p := ⟨g, 5, none⟩) hgw).trans e5
                      have d2 : wr.cell? ⟨g, 3, none⟩ = some (.int .i64 y2) := (hbv.cell (p := ⟨g, 3, none⟩) hgw).trans e3
                      have kI := fun w => pellIndexI_sol d x3 y3 2 S2.out w
                      go_wp2_with fail
                      apply Calls.mono
                      · with_reducible exact kI _
                      rintro _ wi ⟨rfl, hb_wi⟩
                      obtain ⟨hc_wi, hf_wi, hs_wi⟩ := bcell hb_wi
                      have hgi : g < wi.heap.size := by omega
                      go_wp2_with fail
                      refine wp_region_calm (by kernel_rfl) (by kernel_rfl) ?_
                      repeat (go_big_quiet_step (fail))
                      refine wpQuiet_nil ?_
                      intro wj hb_wj
                      go_wp2
                      go_roundg (gk - 1)
                      case measure => omega
                      case rel => exact ⟨3, by omega, by omega, by first | rfl | go_num, bthen (bthen hbv hb_wi hbv.size) hb_wj (by have := hbv.size; omega)⟩
                    · go_wp2
                      go_ret
                      exact ⟨rfl, bthen bel11 hbv (by have := bel11.size; omega)⟩

    · obtain ⟨l1, l2, l3⟩ := ls_even ho
      rw [l1, l2, l3] at T
      generalize hp : (cvX d (perN d)).1.1 = p at *
      generalize hq : (cvX d (perN d)).1.2 = q at *
      clear l1 l2 l3 hB
      cases U : okP d p q
      · rw [U] at T
        have kP := fun w => leastPellI_any d w
        have kN := fun w => leastNegativeI_any d w
        have kH := fun w => hasNegativeI_any d w
        have kU := fun w => unitOfI_any d w
        rw [show lpM d = ((0, 0), 5) by unfold lpM; rw [if_pos hpd, T.lb, T.lx, T.ly]; rfl] at kP
        rw [show lnM d = ((0, 0), 3) by unfold lnM; rw [if_pos hpd, if_neg ho]] at kN
        rw [show hnM d = (false, 0) by unfold hnM; rw [if_pos hpd]; simp [ho]] at kH
        rw [show uoM d = ((0, 0), 0, 5) by unfold uoM; rw [if_pos hpd, hp, hq, U]; rfl] at kU
        have p1 := T.p1
        have q1 := T.q1
        have np1 : ¬ p < 1 := by omega
        have nq1 : ¬ q < 1 := by omega
        clear T hpd hp hq ho U
        have hq1 := run_guardP .neq

        go_wp2_with fail
        apply Calls.mono
        · with_reducible exact kP _
        rintro _ w3 ⟨rfl, hb_w3⟩
        obtain ⟨hc_w3, hf_w3, hs_w3⟩ := bcell hb_w3
        try simp at hs_w3
        go_wp2_with fail
        apply Calls.mono
        · with_reducible exact kN _
        rintro _ w4 ⟨rfl, hb_w4⟩
        obtain ⟨hc_w4, hf_w4, hs_w4⟩ := bcell hb_w4
        try simp at hs_w4
        have hz_w4_w30 : w3.heap.size < w4.heap.size := by omega
        have hy_w4_w30 : w3.heap.size ≤ w4.heap.size := by omega
        have hx_w4_w30 : ∀ n : Nat, w3.heap.size < w4.heap.size + n := by intro n; omega
        have hv_w4_w30 : ∀ n : Nat, w3.heap.size ≤ w4.heap.size + n := by intro n; omega
        go_wp2_with fail
        apply Calls.mono
        · with_reducible exact kH _
        rintro _ w5 ⟨rfl, hb_w5⟩
        obtain ⟨hc_w5, hf_w5, hs_w5⟩ := bcell hb_w5
        try simp at hs_w5
        have hz_w5_w30 : w3.heap.size < w5.heap.size := by omega
        have hy_w5_w30 : w3.heap.size ≤ w5.heap.size := by omega
        have hx_w5_w30 : ∀ n : Nat, w3.heap.size < w5.heap.size + n := by intro n; omega
        have hv_w5_w30 : ∀ n : Nat, w3.heap.size ≤ w5.heap.size + n := by intro n; omega
        have hz_w5_w40 : w4.heap.size < w5.heap.size := by omega
        have hy_w5_w40 : w4.heap.size ≤ w5.heap.size := by omega
        have hx_w5_w40 : ∀ n : Nat, w4.heap.size < w5.heap.size + n := by intro n; omega
        have hv_w5_w40 : ∀ n : Nat, w4.heap.size ≤ w5.heap.size + n := by intro n; omega
        go_wp2_with fail
        apply Calls.mono
        · with_reducible exact kU _
        rintro _ w6 ⟨rfl, hb_w6⟩
        obtain ⟨hc_w6, hf_w6, hs_w6⟩ := bcell hb_w6
        try simp at hs_w6
        have hz_w6_w30 : w3.heap.size < w6.heap.size := by omega
        have hy_w6_w30 : w3.heap.size ≤ w6.heap.size := by omega
        have hx_w6_w30 : ∀ n : Nat, w3.heap.size < w6.heap.size + n := by intro n; omega
        have hv_w6_w30 : ∀ n : Nat, w3.heap.size ≤ w6.heap.size + n := by intro n; omega
        have hz_w6_w40 : w4.heap.size < w6.heap.size := by omega
        have hy_w6_w40 : w4.heap.size ≤ w6.heap.size := by omega
        have hx_w6_w40 : ∀ n : Nat, w4.heap.size < w6.heap.size + n := by intro n; omega
        have hv_w6_w40 : ∀ n : Nat, w4.heap.size ≤ w6.heap.size + n := by intro n; omega
        go_wp2_with fail
        go_wp2
        go_ret
        refine ⟨by first | rfl | (simp), ?_⟩
        repeat' (first | (with_reducible exact Below.refl _ _) | (with_reducible assumption) | (with_reducible refine Below.alloc ?_ ?_ _) | (with_reducible refine Below.drew ?_) | (with_reducible refine bdrewN ?_ _) | (with_reducible refine Below.setCell ?_ ?_ _) | (with_reducible refine bthen ?_ (by assumption) ?_) | go_size)

      · rw [U] at T
        have kP := fun w => leastPellI_any d w
        have kN := fun w => leastNegativeI_any d w
        have kH := fun w => hasNegativeI_any d w
        have kU := fun w => unitOfI_any d w
        rw [show lpM d = ((p, q), 0) by unfold lpM; rw [if_pos hpd, T.lb, T.lx, T.ly]; rfl] at kP
        rw [show lnM d = ((0, 0), 3) by unfold lnM; rw [if_pos hpd, if_neg ho]] at kN
        rw [show hnM d = (false, 0) by unfold hnM; rw [if_pos hpd]; simp [ho]] at kH
        rw [show uoM d = ((p, q), 1, 0) by unfold uoM; rw [if_pos hpd, hp, hq, U, sg_even ho]; rfl] at kU
        have okb := T.ls rfl
        have kL := fun w => normOfS_any d p q w
        rw [nm_ok hpd okb T.nx] at kL
        have p1 := T.p1
        have q1 := T.q1
        have np1 : ¬ p < 1 := by omega
        have nq1 : ¬ q < 1 := by omega
        have HPD := Lib.hid hpd
        have HT := Lib.hid T
        clear T hpd hp hq ho U
        have hq1 := run_guardP .neq
        have hq2 := run_neP p q p q false (by simp)

        go_wp2_with fail
        apply Calls.mono
        · with_reducible exact kP _
        rintro _ w3 ⟨rfl, hb_w3⟩
        obtain ⟨hc_w3, hf_w3, hs_w3⟩ := bcell hb_w3
        try simp at hs_w3
        go_wp2_with fail
        apply Calls.mono
        · with_reducible exact kN _
        rintro _ w4 ⟨rfl, hb_w4⟩
        obtain ⟨hc_w4, hf_w4, hs_w4⟩ := bcell hb_w4
        try simp at hs_w4
        have hz_w4_w30 : w3.heap.size < w4.heap.size := by omega
        have hy_w4_w30 : w3.heap.size ≤ w4.heap.size := by omega
        have hx_w4_w30 : ∀ n : Nat, w3.heap.size < w4.heap.size + n := by intro n; omega
        have hv_w4_w30 : ∀ n : Nat, w3.heap.size ≤ w4.heap.size + n := by intro n; omega
        go_wp2_with fail
        apply Calls.mono
        · with_reducible exact kH _
        rintro _ w5 ⟨rfl, hb_w5⟩
        obtain ⟨hc_w5, hf_w5, hs_w5⟩ := bcell hb_w5
        try simp at hs_w5
        have hz_w5_w30 : w3.heap.size < w5.heap.size := by omega
        have hy_w5_w30 : w3.heap.size ≤ w5.heap.size := by omega
        have hx_w5_w30 : ∀ n : Nat, w3.heap.size < w5.heap.size + n := by intro n; omega
        have hv_w5_w30 : ∀ n : Nat, w3.heap.size ≤ w5.heap.size + n := by intro n; omega
        have hz_w5_w40 : w4.heap.size < w5.heap.size := by omega
        have hy_w5_w40 : w4.heap.size ≤ w5.heap.size := by omega
        have hx_w5_w40 : ∀ n : Nat, w4.heap.size < w5.heap.size + n := by intro n; omega
        have hv_w5_w40 : ∀ n : Nat, w4.heap.size ≤ w5.heap.size + n := by intro n; omega
        go_wp2_with fail
        apply Calls.mono
        · with_reducible exact kU _
        rintro _ w6 ⟨rfl, hb_w6⟩
        obtain ⟨hc_w6, hf_w6, hs_w6⟩ := bcell hb_w6
        try simp at hs_w6
        have hz_w6_w30 : w3.heap.size < w6.heap.size := by omega
        have hy_w6_w30 : w3.heap.size ≤ w6.heap.size := by omega
        have hx_w6_w30 : ∀ n : Nat, w3.heap.size < w6.heap.size + n := by intro n; omega
        have hv_w6_w30 : ∀ n : Nat, w3.heap.size ≤ w6.heap.size + n := by intro n; omega
        have hz_w6_w40 : w4.heap.size < w6.heap.size := by omega
        have hy_w6_w40 : w4.heap.size ≤ w6.heap.size := by omega
        have hx_w6_w40 : ∀ n : Nat, w4.heap.size < w6.heap.size + n := by intro n; omega
        have hv_w6_w40 : ∀ n : Nat, w4.heap.size ≤ w6.heap.size + n := by intro n; omega
        go_wp2_with fail
        go_wp2_with fail
        apply Calls.mono
        · with_reducible exact kL _
        rintro _ w8 ⟨rfl, hb_w8⟩
        obtain ⟨hc_w8, hf_w8, hs_w8⟩ := bcell hb_w8
        try simp at hs_w8
        have hz_w8_w30 : w3.heap.size < w8.heap.size := by omega
        have hy_w8_w30 : w3.heap.size ≤ w8.heap.size := by omega
        have hx_w8_w30 : ∀ n : Nat, w3.heap.size < w8.heap.size + n := by intro n; omega
        have hv_w8_w30 : ∀ n : Nat, w3.heap.size ≤ w8.heap.size + n := by intro n; omega
        have hz_w8_w40 : w4.heap.size < w8.heap.size := by omega
        have hy_w8_w40 : w4.heap.size ≤ w8.heap.size := by omega
        have hx_w8_w40 : ∀ n : Nat, w4.heap.size < w8.heap.size + n := by intro n; omega
        have hv_w8_w40 : ∀ n : Nat, w4.heap.size ≤ w8.heap.size + n := by intro n; omega
        have hz_w8_w60 : w6.heap.size < w8.heap.size := by omega
        have hy_w8_w60 : w6.heap.size ≤ w8.heap.size := by omega
        have hx_w8_w60 : ∀ n : Nat, w6.heap.size < w8.heap.size + n := by intro n; omega
        have hv_w8_w60 : ∀ n : Nat, w6.heap.size ≤ w8.heap.size + n := by intro n; omega
        have k4 := (Blk.new w3 26 #[.int .i64 p, .int .i64 q]).below hb_w4 (by simp)
        have k5 := (k4.alloc _).below hb_w5 (by simp; omega)
        have k6 := k5.below hb_w6 (by omega)
        have k8 := (k6.alloc _).below hb_w8 (by simp; omega)
        have bel8 : Below w.heap.size w w8 := by repeat' (first | (with_reducible exact Below.refl _ _) | (with_reducible assumption) | (with_reducible refine Below.alloc ?_ ?_ _) | (with_reducible refine Below.drew ?_) | (with_reducible refine bdrewN ?_ _) | (with_reducible refine Below.setCell ?_ ?_ _) | (with_reducible refine bthen ?_ (by assumption) ?_) | go_size)
        have hP8 : w3.heap.size < w8.heap.size := by omega
        have z0 : w8.cell? ⟨w3.heap.size, 0, none⟩ = some (.int .i64 p) := k8.cell 0
        have z1 : w8.cell? ⟨w3.heap.size, 1, none⟩ = some (.int .i64 q) := k8.cell 1
        have T := HT.out
        have hlist := T.list
        have hup1 := T.up 0
        have hup2 := T.up 1
        have hfl := fun n h => T.flags (n := n) h
        have hsol := fun k h => T.sol (k := k) h
        have hroot := fun (y : Int) => @root_no d y p q HPD.out T.ly
        obtain ⟨⟨x2, y2⟩, e2⟩ : ∃ z, (ppS d p q true 1).1 = z := ⟨_, rfl⟩
        obtain ⟨⟨x3, y3⟩, e3⟩ : ∃ z, (ppS d p q true 2).1 = z := ⟨_, rfl⟩
        have hs0 := hsol 0
        have hs1 := hsol 1
        have hs2 := hsol 2
        have e1 : (ppS d p q true 0).1 = (p, q) := rfl
        rw [e2, e3] at hlist hup2
        rw [e1, e2] at hup1
        rw [e1] at hs0
        rw [e2] at hs1
        rw [e3] at hs2
        simp only at hup1 hup2 hs0 hs1 hs2
        have HS0 := Lib.hid hs0
        have HS1 := Lib.hid hs1
        have HS2 := Lib.hid hs2
        have HFL := Lib.hid hfl
        have HLI := Lib.hid hlist
        have HRT := Lib.hid hroot
        generalize hfg : (ppS d p q true 2).2 = fg at *
        have HFG := Lib.hid hfg
        have q1 := run_guardP .neq
        have q2 := run_neP p q p q false (by simp)
        clear hsol hs0 hs1 hs2 hfl hlist hroot hfg e1 e2 e3 T HT HPD kP kN kH kU kL k4 k5 k6 hb_w1 hb_w2 hb_w3 hb_w4 hb_w5 hb_w6 hb_w8 hc_w1 hc_w2 hc_w3 hc_w4 hc_w5 hc_w6 hc_w8 hf_w1 hf_w2 hf_w3 hf_w4 hf_w5 hf_w6 hf_w8 
        go_wp2_with fail
        go_loopg [17] 199 (A2R w8)
        case atStart => exact ⟨0, by omega, by omega, by simp, Below.refl _ _⟩
        case round =>
          obtain ⟨t, ht1, ht2, rfl, hbw⟩ := hrel
          have qr := hbw.size
          have kr := k8.below hbw hP8
          have c0 : wr.cell? ⟨w3.heap.size, 0, none⟩ = some (.int .i64 p) := kr.cell 0
          have c1 : wr.cell? ⟨w3.heap.size, 1, none⟩ = some (.int .i64 q) := kr.cell 1
          by_cases hin : (t : Int) + 1 < q ∧ (t : Int) + 1 < 200
          · obtain ⟨hi1, hi2⟩ := hin
            have hR := HRT.out ((t : Int) + 1) (by omega) hi1 (by omega)
            have kR := fun w => rootOfS_any (d * ((t : Int) + 1) * ((t : Int) + 1) + 1) w
            rw [hR] at kR
            have m1 : 0 ≤ d * ((t : Int) + 1) ∧ d * ((t : Int) + 1) ≤ 702 * 200 := ⟨Int.mul_nonneg (by omega) (by omega), Int.mul_le_mul hd2 (by omega) (by omega) (by omega)⟩
            have m2 : 0 ≤ d * ((t : Int) + 1) * ((t : Int) + 1) ∧ d * ((t : Int) + 1) * ((t : Int) + 1) ≤ 702 * 200 * 200 := ⟨Int.mul_nonneg m1.1 (by omega), Int.mul_le_mul m1.2 (by omega) (by omega) (by omega)⟩
            clear hR
            generalize (rootM (d * ((t : Int) + 1) * ((t : Int) + 1) + 1)).1 = v1 at *
            generalize (rootM (d * ((t : Int) + 1) * ((t : Int) + 1) + 1)).2.2 = v3 at *
            go_wp2_with fail
            apply Calls.mono
            · with_reducible exact kR _
            rintro _ wi ⟨rfl, hb_wi⟩
            go_wp2
            go_roundg (gk - 1)
            case measure => omega
            case rel => exact ⟨t + 1, by omega, by omega, by go_num, bthen hbw hb_wi qr⟩
          · have kPP := fun w => pellPairsI_any d 3 w
            unfold PpP at kPP
            have bel9 := bthen bel8 hbw (by have := bel8.size; omega)
            have HIN := Lib.hid hin
            clear hin
            cases fg
            · rw [HLI.out.2 rfl] at kPP
              simp only at kPP
              by_cases hi1 : (t : Int) + 1 < q
              · have hi2 : ¬ (t : Int) + 1 < 200 := fun h => HIN.out ⟨hi1, h⟩
                go_wp2_with fail
                apply Calls.mono
                · with_reducible exact kPP _
                rintro _ w9 ⟨v, rfl, hv, hb_w9⟩
                go_wp2
                go_ret
                exact ⟨rfl, bthen bel9 hb_w9 bel9.size⟩
              · go_wp2_with fail
                apply Calls.mono
                · with_reducible exact kPP _
                rintro _ w9 ⟨v, rfl, hv, hb_w9⟩
                go_wp2
                go_ret
                exact ⟨rfl, bthen bel9 hb_w9 bel9.size⟩
            · rw [HLI.out.1 rfl] at kPP
              have fl2 := HFL.out 2 HFG.out
              have S0 := Lib.hid (HS0.out (fun t ht => fl2 t (by omega)))
              have S1 := Lib.hid (HS1.out (fun t ht => fl2 t (by omega)))
              have S2 := Lib.hid (HS2.out (fun t ht => fl2 t (by omega)))
              have hL : ∀ (w : World) (v : Value), w.ownsRow wr.heap.size 26 2 v 3 (prs [(p, q), (x2, y2), (x3, y3)]) → ∃ g cap, v = .slice (some ⟨g, 0, none⟩) 3 cap ∧ g < w.heap.size ∧ w.cell? ⟨g, 0, none⟩ = some (.int .i64 p) ∧ w.cell? ⟨g, 1, none⟩ = some (.int .i64 q) ∧ w.cell? ⟨g, 2, none⟩ = some (.int .i64 x2) ∧ w.cell? ⟨g, 3, none⟩ = some (.int .i64 y2) ∧ w.cell? ⟨g, 4, none⟩ = some (.int .i64 x3) ∧ w.cell? ⟨g, 5, none⟩ = some (.int .i64 y3) := by
                intro w v hv
                have hv2 := hv
                rcases hv.2 with ⟨_, h0⟩ | ⟨g, cap, cur, rfl, hgb, hg, hnc, hcm, hcs, ht⟩
                · simp at h0
                · exact ⟨g, cap, rfl, (Array.getElem?_eq_some_iff.1 hg).1, hv2.cellAt 0 (by omega), hv2.cellAt 1 (by omega), hv2.cellAt 2 (by omega), hv2.cellAt 3 (by omega), hv2.cellAt 4 (by omega), hv2.cellAt 5 (by omega)⟩
              clear fl2
              by_cases hi1 : (t : Int) + 1 < q
              · have hi2 : ¬ (t : Int) + 1 < 200 := fun h => HIN.out ⟨hi1, h⟩
                go_wp2_with fail
                apply Calls.mono
                · with_reducible exact kPP _
                rintro _ w9 ⟨v, rfl, hv, hb_w9⟩
                obtain ⟨g, cap, rfl, hgl, e0, e1, e2, e3, e4, e5⟩ := hL _ _ hv
                clear hv hL
                have q9 := hb_w9.size
                have k9 := kr.below hb_w9 (by omega)
                have bel10 := bthen bel9 hb_w9 bel9.size
                have i0 : w9.cell? ⟨w3.heap.size, 0, none⟩ = some (.int .i64 p) := k9.cell 0
                have i1 : w9.cell? ⟨w3.heap.size, 1, none⟩ = some (.int .i64 q) := k9.cell 1
                have i2 : w3.heap.size < w9.heap.size := k9.lt
                go_wp2_with fail
                refine wp_region_calm (by kernel_rfl) (by kernel_rfl) ?_
                repeat (go_big_quiet_step (fail))
                refine wpQuiet_nil ?_
                intro w10 hb_w10
                have qa := hb_w10.size
                have bel11 := bthen bel10 hb_w10 bel10.size
                have gx : g < w10.heap.size := by omega
                have e0 := (hb_w10.cell (p := ⟨g, 0, none⟩) hgl).trans e0
                have e1 := (hb_w10.cell (p := ⟨g, 1, none⟩) hgl).trans e1
                have e2 := (hb_w10.cell (p := ⟨g, 2, none⟩) hgl).trans e2
                have e3 := (hb_w10.cell (p := ⟨g, 3, none⟩) hgl).trans e3
                have e4 := (hb_w10.cell (p := ⟨g, 4, none⟩) hgl).trans e4
                have e5 := (hb_w10.cell (p := ⟨g, 5, none⟩) hgl).trans e5
                clear c0 c1 i0 i1
                go_wp2_with fail
                go_loopg [23] 3 (FewR w10)
                case atStart => exact ⟨0, by omega, by omega, rfl, Below.refl _ _⟩
                case round =>
                  obtain ⟨j, hj1, hj2, rfl, hbv⟩ := hrel
                  have qv := hbv.size
                  have hgw : g < w10.heap.size := gx
                  have hgr : g < wr.heap.size := by omega
                  rcases (show j = 0 ∨ j = 1 ∨ j = 2 ∨ j = 3 by omega) with rfl | rfl | rfl | rfl
                  · have d0 : wr.cell? ⟨g, 0, none⟩ = some (.int .i64 p) := (hbv.cell (p := ⟨g, 0, none⟩) hgw).trans e0
                    have d1 : wr.cell? ⟨g, 1, none⟩ = some (.int .i64 q) := (hbv.cell (p := ⟨g, 1, none⟩) hgw).trans e1
                    have kI := fun w => pellIndexI_sol d p q 0 S0.out w
                    go_wp2_with fail
                    apply Calls.mono
                    · with_reducible exact kI _
                    rintro _ wi ⟨rfl, hb_wi⟩
                    obtain ⟨hc_wi, hf_wi, hs_wi⟩ := bcell hb_wi
                    have hgi : g < wi.heap.size := by omega
                    go_wp2_with fail
                    refine wp_region_calm (by kernel_rfl) (by kernel_rfl) ?_
                    repeat (go_big_quiet_step (fail))
                    refine wpQuiet_nil ?_
                    intro wj hb_wj
                    go_wp2
                    go_roundg (gk - 1)
                    case measure => omega
                    case rel => exact ⟨1, by omega, by omega, by first | rfl | go_num, bthen (bthen hbv hb_wi hbv.size) hb_wj (by have := hbv.size; omega)⟩
                  · have d0 : wr.cell? ⟨g, 2, none⟩ = some (.int .i64 x2) := (hbv.cell (p := ⟨g, 2, none⟩) hgw).trans e2
                    have d1 : wr.cell? ⟨g, 3, none⟩ = some (.int .i64 y2) := (hbv.cell (p := ⟨g, 3, none⟩) hgw).trans e3
                    have d2 : wr.cell? ⟨g, 1, none⟩ = some (.int .i64 q) := (hbv.cell (p := ⟨g, 1, none⟩) hgw).trans e1
                    have kI := fun w => pellIndexI_sol d x2 y2 1 S1.out w
                    go_wp2_with fail
                    apply Calls.mono
                    · with_reducible exact kI _
                    rintro _ wi ⟨rfl, hb_wi⟩
                    obtain ⟨hc_wi, hf_wi, hs_wi⟩ := bcell hb_wi
                    have hgi : g < wi.heap.size := by omega
                    go_wp2_with fail
                    refine wp_region_calm (by kernel_rfl) (by kernel_rfl) ?_
                    repeat (go_big_quiet_step (fail))
                    refine wpQuiet_nil ?_
                    intro wj hb_wj
                    go_wp2
                    go_roundg (gk - 1)
                    case measure => omega
                    case rel => exact ⟨2, by omega, by omega, by first | rfl | go_num, bthen (bthen hbv hb_wi hbv.size) hb_wj (by have := hbv.size; omega)⟩
                  · have d0 : wr.cell? ⟨g, 4, none⟩ = some (.int .i64 x3) := (hbv.cell (p := ⟨g, 4, none⟩) hgw).trans e4
                    have d1 : wr.cell? ⟨g, 5, none⟩ = some (.int .i64 y3) := (hbv.cell (p := ⟨g, 5, none⟩) hgw).trans e5
                    have d2 : wr.cell? ⟨g, 3, none⟩ = some (.int .i64 y2) := (hbv.cell (p := ⟨g, 3, none⟩) hgw).trans e3
                    have kI := fun w => pellIndexI_sol d x3 y3 2 S2.out w
                    go_wp2_with fail
                    apply Calls.mono
                    · with_reducible exact kI _
                    rintro _ wi ⟨rfl, hb_wi⟩
                    obtain ⟨hc_wi, hf_wi, hs_wi⟩ := bcell hb_wi
                    have hgi : g < wi.heap.size := by omega
                    go_wp2_with fail
                    refine wp_region_calm (by kernel_rfl) (by kernel_rfl) ?_
                    repeat (go_big_quiet_step (fail))
                    refine wpQuiet_nil ?_
                    intro wj hb_wj
                    go_wp2
                    go_roundg (gk - 1)
                    case measure => omega
                    case rel => exact ⟨3, by omega, by omega, by first | rfl | go_num, bthen (bthen hbv hb_wi hbv.size) hb_wj (by have := hbv.size; omega)⟩
                  · go_wp2
                    go_ret
                    exact ⟨rfl, bthen bel11 hbv (by have := bel11.size; omega)⟩
              · go_wp2_with fail
                apply Calls.mono
                · with_reducible exact kPP _
                rintro _ w9 ⟨v, rfl, hv, hb_w9⟩
                obtain ⟨g, cap, rfl, hgl, e0, e1, e2, e3, e4, e5⟩ := hL _ _ hv
                clear hv hL
                have q9 := hb_w9.size
                have k9 := kr.below hb_w9 (by omega)
                have bel10 := bthen bel9 hb_w9 bel9.size
                have i0 : w9.cell? ⟨w3.heap.size, 0, none⟩ = some (.int .i64 p) := k9.cell 0
                have i1 : w9.cell? ⟨w3.heap.size, 1, none⟩ = some (.int .i64 q) := k9.cell 1
                have i2 : w3.heap.size < w9.heap.size := k9.lt
                go_wp2_with fail
                refine wp_region_calm (by kernel_rfl) (by kernel_rfl) ?_
                repeat (go_big_quiet_step (fail))
                refine wpQuiet_nil ?_
                intro w10 hb_w10
                have qa := hb_w10.size
                have bel11 := bthen bel10 hb_w10 bel10.size
                have gx : g < w10.heap.size := by omega
                have e0 := (hb_w10.cell (p := ⟨g, 0, none⟩) hgl).trans e0
                have e1 := (hb_w10.cell (p := ⟨g, 1, none⟩) hgl).trans e1
                have e2 := (hb_w10.cell (p := ⟨g, 2, none⟩) hgl).trans e2
                have e3 := (hb_w10.cell (p := ⟨g, 3, none⟩) hgl).trans e3
                have e4 := (hb_w10.cell (p := ⟨g, 4, none⟩) hgl).trans e4
                have e5 := (hb_w10.cell (p := ⟨g, 5, none⟩) hgl).trans e5
                clear c0 c1 i0 i1
                go_wp2_with fail
                go_loopg [23] 3 (FewR w10)
                case atStart => exact ⟨0, by omega, by omega, rfl, Below.refl _ _⟩
                case round =>
                  obtain ⟨j, hj1, hj2, rfl, hbv⟩ := hrel
                  have qv := hbv.size
                  have hgw : g < w10.heap.size := gx
                  have hgr : g < wr.heap.size := by omega
                  rcases (show j = 0 ∨ j = 1 ∨ j = 2 ∨ j = 3 by omega) with rfl | rfl | rfl | rfl
                  · have d0 : wr.cell? ⟨g, 0, none⟩ = some (.int .i64 p) := (hbv.cell (p := ⟨g, 0, none⟩) hgw).trans e0
                    have d1 : wr.cell? ⟨g, 1, none⟩ = some (.int .i64 q) := (hbv.cell (p := ⟨g, 1, none⟩) hgw).trans e1
                    have kI := fun w => pellIndexI_sol d p q 0 S0.out w
                    go_wp2_with fail
                    apply Calls.mono
                    · with_reducible exact kI _
                    rintro _ wi ⟨rfl, hb_wi⟩
                    obtain ⟨hc_wi, hf_wi, hs_wi⟩ := bcell hb_wi
                    have hgi : g < wi.heap.size := by omega
                    go_wp2_with fail
                    refine wp_region_calm (by kernel_rfl) (by kernel_rfl) ?_
                    repeat (go_big_quiet_step (fail))
                    refine wpQuiet_nil ?_
                    intro wj hb_wj
                    go_wp2
                    go_roundg (gk - 1)
                    case measure => omega
                    case rel => exact ⟨1, by omega, by omega, by first | rfl | go_num, bthen (bthen hbv hb_wi hbv.size) hb_wj (by have := hbv.size; omega)⟩
                  · have d0 : wr.cell? ⟨g, 2, none⟩ = some (.int .i64 x2) := (hbv.cell (p := ⟨g, 2, none⟩) hgw).trans e2
                    have d1 : wr.cell? ⟨g, 3, none⟩ = some (.int .i64 y2) := (hbv.cell (p := ⟨g, 3, none⟩) hgw).trans e3
                    have d2 : wr.cell? ⟨g, 1, none⟩ = some (.int .i64 q) := (hbv.cell (p := ⟨g, 1, none⟩) hgw).trans e1
                    have kI := fun w => pellIndexI_sol d x2 y2 1 S1.out w
                    go_wp2_with fail
                    apply Calls.mono
                    · with_reducible exact kI _
                    rintro _ wi ⟨rfl, hb_wi⟩
                    obtain ⟨hc_wi, hf_wi, hs_wi⟩ := bcell hb_wi
                    have hgi : g < wi.heap.size := by omega
                    go_wp2_with fail
                    refine wp_region_calm (by kernel_rfl) (by kernel_rfl) ?_
                    repeat (go_big_quiet_step (fail))
                    refine wpQuiet_nil ?_
                    intro wj hb_wj
                    go_wp2
                    go_roundg (gk - 1)
                    case measure => omega
                    case rel => exact ⟨2, by omega, by omega, by first | rfl | go_num, bthen (bthen hbv hb_wi hbv.size) hb_wj (by have := hbv.size; omega)⟩
                  · have d0 : wr.cell? ⟨g, 4, none⟩ = some (.int .i64 x3) := (hbv.cell (p := ⟨g, 4, none⟩) hgw).trans e4
                    have d1 : wr.cell? ⟨g, 5, none⟩ = some (.int .i64 y3) := (hbv.cell (p := ⟨g, 5, none⟩) hgw).trans e5
                    have d2 : wr.cell? ⟨g, 3, none⟩ = some (.int .i64 y2) := (hbv.cell (p := ⟨g, 3, none⟩) hgw).trans e3
                    have kI := fun w => pellIndexI_sol d x3 y3 2 S2.out w
                    go_wp2_with fail
                    apply Calls.mono
                    · with_reducible exact kI _
                    rintro _ wi ⟨rfl, hb_wi⟩
                    obtain ⟨hc_wi, hf_wi, hs_wi⟩ := bcell hb_wi
                    have hgi : g < wi.heap.size := by omega
                    go_wp2_with fail
                    refine wp_region_calm (by kernel_rfl) (by kernel_rfl) ?_
                    repeat (go_big_quiet_step (fail))
                    refine wpQuiet_nil ?_
                    intro wj hb_wj
                    go_wp2
                    go_roundg (gk - 1)
                    case measure => omega
                    case rel => exact ⟨3, by omega, by omega, by first | rfl | go_num, bthen (bthen hbv hb_wi hbv.size) hb_wj (by have := hbv.size; omega)⟩
                  · go_wp2
                    go_ret
                    exact ⟨rfl, bthen bel11 hbv (by have := bel11.size; omega)⟩

  · go_enter Try.func3, Try.ntmps3
    go_wp2_with fail
    apply Calls.mono
    · with_reducible exact a2Long_any _ _ _ _ _ _ true (by simp; omega) _
    rintro _ w1 ⟨rfl, hb_w1⟩
    obtain ⟨hc_w1, hf_w1, hs_w1⟩ := bcell hb_w1
    try simp at hs_w1
    go_wp2
    go_ret
    refine ⟨by first | rfl | (simp), ?_⟩
    repeat' (first | (with_reducible exact Below.refl _ _) | (with_reducible assumption) | (with_reducible refine Below.alloc ?_ ?_ _) | (with_reducible refine Below.drew ?_) | (with_reducible refine bdrewN ?_ _) | (with_reducible refine Below.setCell ?_ ?_ _) | (with_reducible refine bthen ?_ (by assumption) ?_) | go_size)
set_option maxRecDepth 100000 in
theorem lifted_FnPell (os : Os) (started : os.Started) (H : Type) (enc : TypeId × Value → H) :
    ReturnsInHanded {} Try.checked os 3 .any (Rows.fnPellSpec.pre6 enc Try.prog Try.f3 Rows.fnPellRow.domain false) (Rows.fnPellSpec.post enc Try.prog Try.f3 false true false false) := by
  refine returnsInHanded_of_change (C := Try.checked) own started (by kernel_rfl) Try.func3
    (ChangeSpec.witness6 (enc := enc) (C := Try.checked) false ⟨#[], #[.slice none 0 0], []⟩ 8 (by kernel_rfl) (by kernel_rfl) (by kernel_rfl) (by kernel_rfl)) ?_
  intro W base args ds gs before hval0 hW hcnd _
  have hval : ∀ (j : Nat) t v, Try.f3.params[j]? = some t → args[j]? = some v → Value.okWide Try.prog W .any base t v := hval0
  have hW' := hW
  obtain ⟨p, q, hA0, hV, rfl, hfz, hnd⟩ := hW
  have hA : DataW.TrodAll enc Try.prog W 0 (fun _ => true) true Try.f3.params.toList args.toList ds p := hA0
  rw [Try.params3] at hA hval
  obtain ⟨v0, vs0, d0, ds0, p0, q0, hargs, rfl, rfl, h0, r0⟩ := trodAll_cons hA
  obtain ⟨rfl, rfl, rfl⟩ := trodAll_nil r0
  obtain rfl : args = #[v0] := by cases args; simp_all
  obtain ⟨rfl, rfl⟩ := trodVars_none hV
  have k0 := h0
  have lt0 : ∀ x ∈ p0, x.block < W.heap.size := by obtain ⟨m, hm⟩ := k0; exact DataW.trod_lt m _ _ _ hm
  obtain ⟨a0, len0, cap0, rfl⟩ := okWide_slice Try.underlying22 (hval 0 22 v0 rfl rfl)
  obtain ⟨z0, r0⟩ : ∃ zs, IsRow .u8 W a0 len0 cap0 zs := by
    obtain ⟨fuel, hf⟩ := h0
    rcases open_ints Try.underlying22 Try.underlying5 (by kernel_rfl) hf with ⟨hcs, _⟩ | ⟨x, l, c, zs, hcs, _, hl, hm, hz, _, hcell, hwz⟩
    · simp [Value.cells] at hcs
      obtain ⟨rfl, rfl, rfl⟩ := hcs
      exact ⟨[], .inl ⟨rfl, rfl, rfl, rfl⟩⟩
    · simp [Value.cells] at hcs
      obtain ⟨rfl, rfl, rfl⟩ := hcs
      exact ⟨zs, .inr ⟨_, rfl, hl, hm, by simpa using hz, hcell, hwz⟩⟩
  clear hA0 hval0
  refine (walk_FnPell a0 len0 cap0 z0 W r0).mono fun e W' ⟨he, bel⟩ => ?_
  subst he
  exact ⟨_, rfl, _, _, _, [], _, [], hW', trodAll_mk1 (shut_bool Try.underlying4 _), (trodAll_cons_mk (Below.trod laidOut (by kernel_rfl) (of_decide_eq_true (by kernel_rfl)) k0 bel lt0) trodAll_mk0), rfl, bel.frame _, fun h => by cases h⟩
theorem over_FnPell : Rows.fnPellRow.holds Try.pinned (OpenSpec.ofChange Rows.fnPellSpec) :=
  OpenClaim.holds_of_wide 3 Try.f3 rfl rfl rfl rfl rfl rfl rfl ⟨rfl, rfl, rfl, rfl, rfl⟩ rfl rfl rfl rfl rfl (by kernel_rfl) Try.func3 (by kernel_rfl)
    (of_decide_eq_true (by kernel_rfl)) (by unfold Func.isWrapper; first | (rw [if_pos (by decide +kernel)]; kernel_rfl) | (rw [if_neg (by decide +kernel)]; exact ⟨rfl, rfl⟩))
    (fun os started H enc _ => lifted_FnPell os started H enc)
/-- The statement. -/
theorem holds_FnPell : Rows.FnPellSaid := over_FnPell
#print axioms holds_FnPell

end Go.Proofs.Ytkjakgemjhbfoaa
