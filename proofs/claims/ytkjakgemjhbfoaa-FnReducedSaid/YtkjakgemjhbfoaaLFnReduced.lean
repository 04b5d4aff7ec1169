/-
  For all bytes the law FnReduced answers true: the surds of a period are reduced and follow one another, and a head is empty just for a reduced surd. Conditions: none.
-/
import Derived.Test.YtkjakgemjhbfoaaRed
import Derived.Test.YtkjakgemjhbfoaaTail
import Derived.Test.YtkjakgemjhbfoaaPof
import Derived.Test.YtkjakgemjhbfoaaDraw2
import Derived.Test.YtkjakgemjhbfoaaDraw3
namespace Go.Proofs.Ytkjakgemjhbfoaa
open Go.ChangeShapes Go.WideShapes Go.ChangeAt Go.RowKit Go.Joins
open Go.ChangeMaps (open_string shut_string)
set_option linter.unusedVariables false

theorem run_neS (a b c d e f : Int) (r : Bool) (hr : (!(a == d && (b == e && c == f))) = r) (w : World) : (binOp .neq 50 (.agg #[.int .i64 a, .int .i64 b, .int .i64 c]) (.agg #[.int .i64 d, .int .i64 e, .int .i64 f])).run Try.prog w = .ok (.bool r) w := by
  rw [run_neq_struct, run_equalIn_struct (P := Try.prog) w 9999 50 _ _ Try.fieldsS Try.heldS]
  obtain ⟨f1, f2, f3, hl, ⟨n1, n2, n3⟩, ⟨t1, t2, t3⟩, o1, o2, o3⟩ := fields3 Try.listS
  subst hr
  rw [hl, run_eqFields3 Try.underlying2 Try.plainI (by rw [n1]; decide) (by rw [n2]; decide) (by rw [n3]; decide) t1 t2 t3 o1 o2 o3 9998]
  rfl
/-- The walk that begins in a period. -/
theorem wk_cycle {d : Int} {x : Int × Int} {j m : Nat} (h0 : okX d x = true) (h : wk d x = some (j, m)) : ∃ m2, wk d (orb d x j) = some (0, m2) := by
  obtain ⟨a0, R, _⟩ := okX_root h0
  obtain ⟨h1, h2, h3, _, _⟩ := wk_some h h0
  have hr := cycle_red R h0 h j (Nat.le_refl _)
  have hper : orb d (orb d x j) 0 = orb d (orb d x j) (m - j) := by
    show orb d x j = orb d (orb d x j) (m - j)
    rw [orb_add, show j + (m - j) = m by omega]
    exact h3
  obtain ⟨j2, m2, hw⟩ := wkF_hits (d := d) (o := orb d (orb d x j)) (a := 0) (b := m - j) (by omega) (by omega) hper (fun k _ => red_ok R (red_on R hr k)) (f := 401) (n := 0) (by omega) (by omega)
  have hw' : wk d (orb d x j) = some (j2, m2) := hw
  obtain rfl := red_pure R hr hw'
  exact ⟨m2, hw'⟩
theorem eqN_self (d : Int) (x : Int × Int) : eqN d x d x = true := by simp [eqN]
theorem st_self {p d q : Int} {j m : Nat} (h0 : okS p d q = true) (h : wk d (p, q) = some (j, m)) : stM p d q (orb d (p, q) j).1 d (orb d (p, q) j).2 = (true, 0) := by
  obtain ⟨h1, h2, h3, h4, _⟩ := wk_some h h0
  have hok : okS (orb d (p, q) j).1 d (orb d (p, q) j).2 = true := h4 j (by omega)
  obtain ⟨m2, hw⟩ := wk_cycle (x := (p, q)) h0 h
  rw [st_some h0 hok h hw]
  have e : (orb d (orb d (p, q) j) 0) = orb d (p, q) j := rfl
  have : ((osn (orb d (p, q)) m).drop j).any (fun x => eqN d x d (orb d ((orb d (p, q) j).1, (orb d (p, q) j).2) 0)) = true :=
    any_osn_true (Nat.le_refl _) h1 (eqN_self d (orb d (p, q) j))
  rw [this]
/-- What the law uses of the walk of a surd. -/
structure CyF (p d q : Int) (N : Nat) (o : Nat → Int × Int) (j : Nat) : Prop where
  cy : (cyM p d q).2 = 0
  cyl : (cyM p d q).1.length = N
  cyg : ∀ i, i < N → (cyM p d q).1[i]? = some (o i)
  prc : (prM p d q).2.2 = 0
  prl : (prM p d q).2.1.length = N
  prh : (prM p d q).1.length = j
  prg : ∀ i, i < N → (prM p d q).2.1[i]? = some (tmX d (o i))
  n1 : 1 ≤ N
  n2 : N ≤ 400
  j2 : j ≤ 400
  wrap : o N = o 0
  nx : ∀ i, i < N → nxM (o i).1 d (o i).2 = (tmX d (o i), ((o (i + 1)).1, d, (o (i + 1)).2), 0)
  red : ∀ i, i < N → okS (o i).1 d (o i).2 = true ∧ redB (o i).1 d (o i).2 = true
  st : stM p d q (o 0).1 d (o 0).2 = (true, 0)
  pure : (okS p d q && redB p d q) = decide (j = 0)
  bd : ∀ i, i < N → -1000000 ≤ (o i).1 ∧ (o i).1 ≤ 1000000 ∧ -1000000 ≤ (o i).2 ∧ (o i).2 ≤ 1000000
theorem cy_facts {p d q : Int} {j m : Nat} (h0 : okS p d q = true) (h : wk d (p, q) = some (j, m)) : ∃ o, CyF p d q (m - j) o j := by
  obtain ⟨h1, h2, h3, h4, _⟩ := wk_some h h0
  obtain ⟨a0, R, hq, hd⟩ := okX_root (x := (p, q)) h0
  have hred := cycle_red R (x := (p, q)) h0 h
  have hrok : ∀ i, i < m - j → okS (orb d (p, q) (j + i)).1 d (orb d (p, q) (j + i)).2 = true := fun i hi => h4 (j + i) (by omega)
  refine ⟨fun i => orb d (p, q) (j + i), ⟨?_, ?_, ?_, ?_, ?_, ?_, ?_, by omega, by omega, by omega, ?_, ?_, ?_, ?_, ?_, ?_⟩⟩
  · rw [cy_some h0 h]
  · rw [cy_some h0 h]; simp only [List.length_drop, osn_len]
  · intro i hi
    rw [cy_some h0 h]
    simp only [List.getElem?_drop]
    exact osn_get _ _ _ (by omega)
  · rw [pr_some h0 h]
  · rw [pr_some h0 h]; simp only [List.length_drop, tmL_len]
  · rw [pr_some h0 h]; simp only [List.length_take, tmL_len]; omega
  · intro i hi
    rw [pr_some h0 h]
    simp only [List.getElem?_drop]
    exact tmL_get _ _ _ _ (by omega)
  · show orb d (p, q) (j + (m - j)) = orb d (p, q) (j + 0)
    rw [show j + (m - j) = m by omega]
    exact h3.symm
  · intro i hi
    have k1 := hrok i hi
    have k2 : okS (orb d (p, q) (j + (i + 1))).1 d (orb d (p, q) (j + (i + 1))).2 = true := h4 (j + (i + 1)) (by omega)
    have e : orb d (p, q) (j + (i + 1)) = nxt d (orb d (p, q) (j + i)) := rfl
    rw [e] at k2 ⊢
    unfold nxM
    rw [if_pos k1, if_pos (show okS (hdS (orb d (p, q) (j + i)).1 d (orb d (p, q) (j + i)).2) d (tlS (orb d (p, q) (j + i)).1 d (orb d (p, q) (j + i)).2) = true from k2)]
    rfl
  · intro i hi
    have hr := hred (j + i) (by omega)
    refine ⟨hrok i hi, (redB_iff R ?_ ?_).2 hr⟩
    · obtain ⟨_, ⟨g, _, _⟩, _⟩ := hr; omega
    · exact hr.2.2
  · exact st_self h0 h
  · rw [h0, Bool.true_and]
    cases hb : redB p d q
    · symm
      rw [decide_eq_false_iff_not]
      rintro rfl
      have := (redB_iff R hq hd).2 (hred 0 (Nat.le_refl _))
      rw [hb] at this
      cases this
    · symm
      rw [decide_eq_true_eq]
      exact red_pure R ((redB_iff R hq hd).1 hb) h
  · intro i hi
    obtain ⟨_, _, b1, b2, b3, b4, _⟩ := okS_bd (hrok i hi)
    exact ⟨b1, b2, b3, b4⟩
def RdLR (w : World) (N : Nat) (k : Nat) (i : Value) (wr : World) : Prop := ∃ t : Nat, t ≤ N ∧ N ≤ t + k ∧ i = .int .i64 (t : Int) ∧ Below w.heap.size w wr
set_option maxRecDepth 100000 in
set_option maxHeartbeats 8000000 in
theorem walk_FnReduced (a : Option Addr) (n c : Nat) (zs : List Int) (w : World) (hr : IsRow .u8 w a n c zs) :
    Calls Try.prog 5 #[.slice a n c] w (Ret w (.bool true)) := by
  by_cases hl : n ≤ 3000
  · have hrd := byteRd_of_row hr
    go_enter Try.func5, Try.ntmps5
    go_wp2_with fail
    apply Calls.mono
    · with_reducible exact a2Long_any _ _ _ _ _ _ false (by simp; omega) _
    rintro _ w1 ⟨rfl, hb_w1⟩
    obtain ⟨hc_w1, hf_w1, hs_w1⟩ := bcell hb_w1
    try simp at hs_w1
    have hrd1 := hrd.below hb_w1
    go_wp2_with fail
    apply Calls.mono
    · with_reducible exact a2Surd_any _ _ _ _ (by omega) hrd1
    rintro _ w2 ⟨p, d, q, rfl, hok, hb_w2⟩
    obtain ⟨hc_w2, hf_w2, hs_w2⟩ := bcell hb_w2
    try simp at hs_w2
    clear hrd hrd1 hr
    have kC := fun w => cycleOfI_any p d q w
    have kP := fun w => periodOfI_any p d q w
    have kL := fun w => periodLengthI_any p d q w
    have kU := fun w => isPurelyI_any p d q w
    cases hw : wk d (p, q) with
    | none =>
      rw [cy_none hok hw] at kC
      rw [pr_none hok hw] at kP kL kU
      clear hok hw
      unfold CyP at kC
      unfold PofP at kP
      simp only [List.length_nil] at kC kP kL kU
      go_wp2_with fail
      apply Calls.mono
      · with_reducible exact kC _
      rintro _ w3 ⟨v3, rfl, hv3, hb_w3⟩
      obtain ⟨hc_w3, hf_w3, hs_w3⟩ := bcell hb_w3
      try simp at hs_w3
      have hz_w3_w20 : w2.heap.size < w3.heap.size := by omega
      have hy_w3_w20 : w2.heap.size ≤ w3.heap.size := by omega
      have hx_w3_w20 : ∀ n : Nat, w2.heap.size < w3.heap.size + n := by intro n; omega
      have hv_w3_w20 : ∀ n : Nat, w2.heap.size ≤ w3.heap.size + n := by intro n; omega
      go_wp2_with fail
      apply Calls.mono
      · with_reducible exact kP _
      rintro _ w4 ⟨v4, v5, rfl, hv4, hv5, hap, hb_w4⟩
      obtain ⟨hc_w4, hf_w4, hs_w4⟩ := bcell hb_w4
      try simp at hs_w4
      have hz_w4_w20 : w2.heap.size < w4.heap.size := by omega
      have hy_w4_w20 : w2.heap.size ≤ w4.heap.size := by omega
      have hx_w4_w20 : ∀ n : Nat, w2.heap.size < w4.heap.size + n := by intro n; omega
      have hv_w4_w20 : ∀ n : Nat, w2.heap.size ≤ w4.heap.size + n := by intro n; omega
      go_wp2_with fail
      apply Calls.mono
      · with_reducible exact kL _
      rintro _ w5 ⟨rfl, hb_w5⟩
      obtain ⟨hc_w5, hf_w5, hs_w5⟩ := bcell hb_w5
      try simp at hs_w5
      have hz_w5_w20 : w2.heap.size < w5.heap.size := by omega
      have hy_w5_w20 : w2.heap.size ≤ w5.heap.size := by omega
      have hx_w5_w20 : ∀ n : Nat, w2.heap.size < w5.heap.size + n := by intro n; omega
      have hv_w5_w20 : ∀ n : Nat, w2.heap.size ≤ w5.heap.size + n := by intro n; omega
      go_wp2_with fail
      apply Calls.mono
      · with_reducible exact kU _
      rintro _ w6 ⟨rfl, hb_w6⟩
      obtain ⟨hc_w6, hf_w6, hs_w6⟩ := bcell hb_w6
      try simp at hs_w6
      have hz_w6_w20 : w2.heap.size < w6.heap.size := by omega
      have hy_w6_w20 : w2.heap.size ≤ w6.heap.size := by omega
      have hx_w6_w20 : ∀ n : Nat, w2.heap.size < w6.heap.size + n := by intro n; omega
      have hv_w6_w20 : ∀ n : Nat, w2.heap.size ≤ w6.heap.size + n := by intro n; omega
      go_wp2
      go_ret
      refine ⟨by first | rfl | (simp), ?_⟩
      repeat' (first | (with_reducible exact Below.refl _ _) | (with_reducible assumption) | (with_reducible refine Below.alloc ?_ ?_ _) | (with_reducible refine Below.drew ?_) | (with_reducible refine bdrewN ?_ _) | (with_reducible refine Below.setCell ?_ ?_ _) | (with_reducible refine bthen ?_ (by assumption) ?_) | go_size)
    | some z =>
      obtain ⟨j, m⟩ := z
      obtain ⟨o, F⟩ := cy_facts hok hw
      have kR := fun w => isReducedI_any p d q w
      rw [F.pure] at kR
      unfold CyP at kC
      unfold PofP at kP
      rw [F.cy, F.cyl] at kC
      rw [F.prc, F.prl, F.prh] at kP
      rw [F.prc, F.prl] at kL
      rw [F.prc, F.prh] at kU
      have kT := fun w => sameTailI_any p d q (o 0).1 d (o 0).2 w
      rw [F.st] at kT
      generalize m - j = N at *
      have hcg := F.cyg
      have hpg := F.prg
      generalize (cyM p d q).1 = cs at *
      generalize (prM p d q).2.1 = ps at *
      generalize (prM p d q).1 = hs at *
      obtain ⟨_, _, _, _, _, _, _, hN1, hN2, hj2, hwrap, hnx, hred, _, _, hbd⟩ := F
      have HCG := Lib.hid hcg
      have HPG := Lib.hid hpg
      have HWR := Lib.hid hwrap
      have HNX := Lib.hid hnx
      have HRD := Lib.hid hred
      have HBD := Lib.hid hbd
      clear hcg hpg hwrap hnx hred hbd hok hw
      obtain ⟨bj, hbj⟩ : ∃ b, decide (j = 0) = b := ⟨_, rfl⟩
      have ej : (((j : Nat) : Int) == 0) = bj := by
        rw [← hbj]
        by_cases e : j = 0
        · subst e; rfl
        · have : ((j : Nat) : Int) ≠ 0 := by omega
          simp [e]
      rw [hbj] at kR
      have eU : ((0 : Int) == 0 && (((j : Nat) : Int) == 0)) = bj := by rw [ej]; rfl
      rw [eU] at kU
      clear eU hbj
      have hN1' : ¬ ((N : Int) < 1) := by omega
      go_wp2_with fail
      apply Calls.mono
      · with_reducible exact kC _
      rintro _ w3 ⟨v3, rfl, hv3, hb_w3⟩
      obtain ⟨hc_w3, hf_w3, hs_w3⟩ := bcell hb_w3
      try simp at hs_w3
      have hz_w3_w20 : w2.heap.size < w3.heap.size := by omega
      have hy_w3_w20 : w2.heap.size ≤ w3.heap.size := by omega
      have hx_w3_w20 : ∀ n : Nat, w2.heap.size < w3.heap.size + n := by intro n; omega
      have hv_w3_w20 : ∀ n : Nat, w2.heap.size ≤ w3.heap.size + n := by intro n; omega
      go_wp2_with fail
      apply Calls.mono
      · with_reducible exact kP _
      rintro _ w4 ⟨v4, v5, rfl, hv4, hv5, hap, hb_w4⟩
      obtain ⟨hc_w4, hf_w4, hs_w4⟩ := bcell hb_w4
      try simp at hs_w4
      have hz_w4_w20 : w2.heap.size < w4.heap.size := by omega
      have hy_w4_w20 : w2.heap.size ≤ w4.heap.size := by omega
      have hx_w4_w20 : ∀ n : Nat, w2.heap.size < w4.heap.size + n := by intro n; omega
      have hv_w4_w20 : ∀ n : Nat, w2.heap.size ≤ w4.heap.size + n := by intro n; omega
      obtain ⟨va4, vc4, rfl⟩ := row_slice hv4
      rcases hv5.2 with ⟨_, h0⟩ | ⟨g5, cap5, cur5, rfl, hgb5, hg5, hnc5, hcm5, hcs5, ht5⟩
      · omega
      rcases hv3.2 with ⟨_, h0⟩ | ⟨g3, cap3, cur3, rfl, hgb3, hg3, hnc3, hcm3, hcs3, ht3⟩
      · omega
      have l3 : g3 < w3.heap.size := (Array.getElem?_eq_some_iff.1 hg3).1
      have l5 : g5 < w4.heap.size := (Array.getElem?_eq_some_iff.1 hg5).1
      go_wp2_with fail
      apply Calls.mono
      · with_reducible exact kL _
      rintro _ w5 ⟨rfl, hb_w5⟩
      obtain ⟨hc_w5, hf_w5, hs_w5⟩ := bcell hb_w5
      try simp at hs_w5
      have hz_w5_w20 : w2.heap.size < w5.heap.size := by omega
      have hy_w5_w20 : w2.heap.size ≤ w5.heap.size := by omega
      have hx_w5_w20 : ∀ n : Nat, w2.heap.size < w5.heap.size + n := by intro n; omega
      have hv_w5_w20 : ∀ n : Nat, w2.heap.size ≤ w5.heap.size + n := by intro n; omega
      go_wp2_with fail
      apply Calls.mono
      · with_reducible exact kU _
      rintro _ w6 ⟨rfl, hb_w6⟩
      obtain ⟨hc_w6, hf_w6, hs_w6⟩ := bcell hb_w6
      try simp at hs_w6
      have hz_w6_w20 : w2.heap.size < w6.heap.size := by omega
      have hy_w6_w20 : w2.heap.size ≤ w6.heap.size := by omega
      have hx_w6_w20 : ∀ n : Nat, w2.heap.size < w6.heap.size + n := by intro n; omega
      have hv_w6_w20 : ∀ n : Nat, w2.heap.size ≤ w6.heap.size + n := by intro n; omega
      go_wp2_with fail
      apply Calls.mono
      · with_reducible exact kR _
      rintro _ w7 ⟨rfl, hb_w7⟩
      obtain ⟨hc_w7, hf_w7, hs_w7⟩ := bcell hb_w7
      try simp at hs_w7
      have hz_w7_w20 : w2.heap.size < w7.heap.size := by omega
      have hy_w7_w20 : w2.heap.size ≤ w7.heap.size := by omega
      have hx_w7_w20 : ∀ n : Nat, w2.heap.size < w7.heap.size + n := by intro n; omega
      have hv_w7_w20 : ∀ n : Nat, w2.heap.size ≤ w7.heap.size + n := by intro n; omega
      have s3 := hb_w3.size
      have s4 := hb_w4.size
      have s5 := hb_w5.size
      have s6 := hb_w6.size
      have s7 := hb_w7.size
      have b37 : Below w3.heap.size w3 w7 := bthen (bthen (bthen hb_w4 hb_w5 s4) hb_w6 (by omega)) hb_w7 (by omega)
      have b47 : Below w4.heap.size w4 w7 := bthen (bthen hb_w5 hb_w6 s5) hb_w7 (by omega)
      have kc3 : ∀ j u, (srd d cs)[j]? = some u → w7.cell? ⟨g3, j, none⟩ = some u := fun j u hu => by
        have hj : j < N * 3 := by
          have := hv3.1
          rcases Nat.lt_or_ge j (N * 3) with h' | h'
          · exact h'
          · rw [List.getElem?_eq_none (by omega)] at hu; cases hu
        exact (b37.cell (p := ⟨g3, j, none⟩) l3).trans ((hv3.cellAt j hj).trans hu)
      have kc5 : ∀ j u, (ints ps)[j]? = some u → w7.cell? ⟨g5, j, none⟩ = some u := fun j u hu => by
        have hj : j < N * 1 := by
          have := hv5.1
          rcases Nat.lt_or_ge j (N * 1) with h' | h'
          · exact h'
          · rw [List.getElem?_eq_none (by omega)] at hu; cases hu
        exact (b47.cell (p := ⟨g5, j, none⟩) l5).trans ((hv5.cellAt j hj).trans hu)
      have hS7 : Blk w7 w2.heap.size 50 #[.int .i64 p, .int .i64 d, .int .i64 q] := ((Blk.new w2 _ _).below hb_w3 (by simp)).below b37 (by simp at s3; omega)
      have bel7 : Below w.heap.size w w7 := by
        have := hb_w1.size
        have := hb_w2.size
        repeat' (first | (with_reducible exact Below.refl _ _) | (with_reducible assumption) | (with_reducible refine Below.alloc ?_ ?_ _) | (with_reducible refine Below.drew ?_) | (with_reducible refine bdrewN ?_ _) | (with_reducible refine Below.setCell ?_ ?_ _) | (with_reducible refine bthen ?_ (by assumption) ?_) | go_size)
      have lS7 := hS7.lt
      have l37 : g3 < w7.heap.size := by omega
      have l57 : g5 < w7.heap.size := by omega
      have KC3 := Lib.hid kc3
      have KC5 := Lib.hid kc5
      clear kc3 kc5 hv3 hv4 hv5 hap hg3 hg5 hcs3 hcs5 ht3 ht5 b37 b47 hb_w1 hb_w2 hb_w3 hb_w4 hb_w5 hb_w6 hb_w7 hc_w1 hc_w2 hc_w3 hc_w4 hc_w5 hc_w6 hc_w7 hf_w1 hf_w2 hf_w3 hf_w4 hf_w5 hf_w6 hf_w7 kC kP kL kU kR ej
      have q1 := run_guardS .neq
      go_wp2_with fail
      go_loopg [13] N (RdLR w7 N)
      case atStart => exact ⟨0, by omega, by omega, rfl, Below.refl _ _⟩
      case round =>
        obtain ⟨t, ht1, ht2, rfl, hbw⟩ := hrel
        have qr := hbw.size
        by_cases htn : t < N
        · have htn' : (t : Int) < (N : Int) := by omega
          have hnx := HNX.out t htn
          have hrd := HRD.out t htn
          have hcs := HCG.out t htn
          have hps := HPG.out t htn
          obtain ⟨b1, b2, b3, b4⟩ := HBD.out t htn
          have kN := fun w => nextSurdS_any (o t).1 d (o t).2 w
          have kI := fun w => isReducedS_any (o t).1 d (o t).2 w
          rw [hnx] at kN
          rw [hrd.1, hrd.2] at kI
          simp only [Bool.and_true] at kI
          have hnext : (t + 1 < N ∧ cs[t + 1]? = some (o (t + 1))) ∨ (t + 1 = N ∧ cs[0]? = some (o (t + 1))) := by
            rcases Nat.lt_or_ge (t + 1) N with h' | h'
            · exact .inl ⟨h', HCG.out _ h'⟩
            · refine .inr ⟨by omega, ?_⟩
              rw [show t + 1 = N by omega, HWR.out]
              exact HCG.out 0 (by omega)
          generalize tmX d (o t) = tm at *
          obtain ⟨⟨x, y⟩, hxy⟩ : ∃ z, o t = z := ⟨_, rfl⟩
          obtain ⟨⟨x', y'⟩, hxy'⟩ : ∃ z, o (t + 1) = z := ⟨_, rfl⟩
          simp only [hxy, hxy'] at kN kI b1 b2 b3 b4 hcs hnext
          obtain ⟨u1, u2, u3⟩ := srd_get (d := d) hcs
          have r1 : wr.cell? ⟨g3, t * 3, none⟩ = some (.int .i64 x) := (hbw.cell (p := ⟨g3, t * 3, none⟩) l37).trans (KC3.out _ _ u1)
          have r2 : wr.cell? ⟨g3, t * 3 + 1, none⟩ = some (.int .i64 d) := (hbw.cell (p := ⟨g3, t * 3 + 1, none⟩) l37).trans (KC3.out _ _ u2)
          have r3 : wr.cell? ⟨g3, t * 3 + 2, none⟩ = some (.int .i64 y) := (hbw.cell (p := ⟨g3, t * 3 + 2, none⟩) l37).trans (KC3.out _ _ u3)
          have r4 : wr.cell? ⟨g5, t, none⟩ = some (.int .i64 tm) := (hbw.cell (p := ⟨g5, t, none⟩) l57).trans (KC5.out _ _ (ints_get hps))
          have lg3 : g3 < wr.heap.size := by omega
          have lg5 : g5 < wr.heap.size := by omega
          have q2 := run_neS x' d y' x' d y' false (by simp)
          have HNE := Lib.hid hnext
          clear u1 u2 u3 hcs hps hnx hrd hxy hxy' hnext
          go_wp2_with fail
          apply Calls.mono
          · with_reducible exact kN _
          rintro _ w8 ⟨rfl, hb_w8⟩
          obtain ⟨hc_w8, hf_w8, hs_w8⟩ := bcell hb_w8
          try simp at hs_w8
          have lg38 : g3 < w8.heap.size := by omega
          have lg58 : g5 < w8.heap.size := by omega
          have hN0 : (N : Int) ≠ 0 := by omega
          rcases HNE.out with ⟨e1, e2⟩ | ⟨e1, e2⟩
          · have hmod : ((t : Int) + 1) % (N : Int) = (t : Int) + 1 := Int.emod_eq_of_lt (by omega) (by omega)
            have e1' : (t : Int) + 1 < (N : Int) := by omega
            obtain ⟨u1, u2, u3⟩ := srd_get (d := d) e2
            have r5 : wr.cell? ⟨g3, (t + 1) * 3, none⟩ = some (.int .i64 x') := (hbw.cell (p := ⟨g3, (t + 1) * 3, none⟩) l37).trans (KC3.out _ _ u1)
            have r6 : wr.cell? ⟨g3, (t + 1) * 3 + 1, none⟩ = some (.int .i64 d) := (hbw.cell (p := ⟨g3, (t + 1) * 3 + 1, none⟩) l37).trans (KC3.out _ _ u2)
            have r7 : wr.cell? ⟨g3, (t + 1) * 3 + 2, none⟩ = some (.int .i64 y') := (hbw.cell (p := ⟨g3, (t + 1) * 3 + 2, none⟩) l37).trans (KC3.out _ _ u3)
            clear u1 u2 u3
            go_wp2_with fail
            refine wp_region_calm (by kernel_rfl) (by kernel_rfl) ?_
            repeat (go_big_quiet_step (with_reducible exact calm (kI _)))
            refine wpQuiet_nil ?_
            intro w9 hb_w9
            go_wp2
            go_roundg (gk - 1)
            case measure => omega
            case rel => exact ⟨t + 1, by omega, by omega, by go_num, by have := hb_w8.size; repeat' (first | (with_reducible exact Below.refl _ _) | (with_reducible assumption) | (with_reducible refine Below.alloc ?_ ?_ _) | (with_reducible refine Below.drew ?_) | (with_reducible refine bdrewN ?_ _) | (with_reducible refine Below.setCell ?_ ?_ _) | (with_reducible refine bthen ?_ (by assumption) ?_) | go_size)⟩
          · have hmod : ((t : Int) + 1) % (N : Int) = 0 := by rw [show ((t : Int) + 1) = (N : Int) by omega]; exact Int.emod_self
            obtain ⟨u1, u2, u3⟩ := srd_get (d := d) e2
            have r5 : wr.cell? ⟨g3, 0, none⟩ = some (.int .i64 x') := (hbw.cell (p := ⟨g3, 0, none⟩) l37).trans (KC3.out _ _ u1)
            have r6 : wr.cell? ⟨g3, 1, none⟩ = some (.int .i64 d) := (hbw.cell (p := ⟨g3, 1, none⟩) l37).trans (KC3.out _ _ u2)
            have r7 : wr.cell? ⟨g3, 2, none⟩ = some (.int .i64 y') := (hbw.cell (p := ⟨g3, 2, none⟩) l37).trans (KC3.out _ _ u3)
            have hNp : (0 : Int) < (N : Int) := by omega
            clear u1 u2 u3
            go_wp2_with fail
            refine wp_region_calm (by kernel_rfl) (by kernel_rfl) ?_
            repeat (go_big_quiet_step (with_reducible exact calm (kI _)))
            refine wpQuiet_nil ?_
            intro w9 hb_w9
            go_wp2
            go_roundg (gk - 1)
            case measure => omega
            case rel => exact ⟨t + 1, by omega, by omega, by go_num, by have := hb_w8.size; repeat' (first | (with_reducible exact Below.refl _ _) | (with_reducible assumption) | (with_reducible refine Below.alloc ?_ ?_ _) | (with_reducible refine Below.drew ?_) | (with_reducible refine bdrewN ?_ _) | (with_reducible refine Below.setCell ?_ ?_ _) | (with_reducible refine bthen ?_ (by assumption) ?_) | go_size)⟩
        · obtain rfl : t = N := by omega
          have hcs := HCG.out 0 (by omega)
          obtain ⟨u1, u2, u3⟩ := srd_get (d := d) hcs
          generalize (o 0).1 = x at *
          generalize (o 0).2 = y at *
          have r5 : wr.cell? ⟨g3, 0, none⟩ = some (.int .i64 x) := (hbw.cell (p := ⟨g3, 0, none⟩) l37).trans (KC3.out _ _ u1)
          have r6 : wr.cell? ⟨g3, 1, none⟩ = some (.int .i64 d) := (hbw.cell (p := ⟨g3, 1, none⟩) l37).trans (KC3.out _ _ u2)
          have r7 : wr.cell? ⟨g3, 2, none⟩ = some (.int .i64 y) := (hbw.cell (p := ⟨g3, 2, none⟩) l37).trans (KC3.out _ _ u3)
          have hSr := hS7.below hbw lS7
          have r8 : wr.cell? ⟨w2.heap.size, 0, none⟩ = some (.int .i64 p) := hSr.cell 0
          have r9 : wr.cell? ⟨w2.heap.size, 1, none⟩ = some (.int .i64 d) := hSr.cell 1
          have ra : wr.cell? ⟨w2.heap.size, 2, none⟩ = some (.int .i64 q) := hSr.cell 2
          have rb := hSr.lt
          have lg3 : g3 < wr.heap.size := by omega
          have hNp : (0 : Int) < (t : Int) := by omega
          clear u1 u2 u3 hcs
          go_wp2_with fail
          refine wp_region_calm (by kernel_rfl) (by kernel_rfl) ?_
          repeat (go_big_quiet_step (with_reducible exact calm (kT _)))
          refine wpQuiet_nil ?_
          intro w9 hb_w9
          have bel9 := bthen (bthen bel7 hbw bel7.size) hb_w9 (by have := bel7.size; omega)
          go_wp2
          go_ret
          refine ⟨by first | rfl | (simp), ?_⟩
          repeat' (first | (with_reducible exact Below.refl _ _) | (with_reducible assumption) | (with_reducible refine Below.alloc ?_ ?_ _) | (with_reducible refine Below.drew ?_) | (with_reducible refine bdrewN ?_ _) | (with_reducible refine Below.setCell ?_ ?_ _) | (with_reducible refine bthen ?_ (by assumption) ?_) | go_size)
  · go_enter Try.func5, Try.ntmps5
    go_wp2_with fail
    apply Calls.mono
    · with_reducible exact a2Long_any _ _ _ _ _ _ true (by simp; omega) _
    rintro _ w1 ⟨rfl, hb_w1⟩
    obtain ⟨hc_w1, hf_w1, hs_w1⟩ := bcell hb_w1
    try simp at hs_w1
    go_wp2
    go_ret
    refine ⟨by first | rfl | (simp), ?_⟩
    repeat' (first | (with_reducible exact Below.refl _ _) | (with_reducible assumption) | (with_reducible refine Below.alloc ?_ ?_ _) | (with_reducible refine Below.drew ?_) | (with_reducible refine bdrewN ?_ _) | (with_reducible refine Below.setCell ?_ ?_ _) | (with_reducible refine bthen ?_ (by assumption) ?_) | go_size)
set_option maxRecDepth 100000 in
theorem lifted_FnReduced (os : Os) (started : os.Started) (H : Type) (enc : TypeId × Value → H) :
    ReturnsInHanded {} Try.checked os 5 .any (Rows.fnReducedSpec.pre6 enc Try.prog Try.f5 Rows.fnReducedRow.domain false) (Rows.fnReducedSpec.post enc Try.prog Try.f5 false true false false) := by
  refine returnsInHanded_of_change (C := Try.checked) own started (by kernel_rfl) Try.func5
    (ChangeSpec.witness6 (enc := enc) (C := Try.checked) false ⟨#[], #[.slice none 0 0], []⟩ 8 (by kernel_rfl) (by kernel_rfl) (by kernel_rfl) (by kernel_rfl)) ?_
  intro W base args ds gs before hval0 hW hcnd _
  have hval : ∀ (j : Nat) t v, Try.f5.params[j]? = some t → args[j]? = some v → Value.okWide Try.prog W .any base t v := hval0
  have hW' := hW
  obtain ⟨p, q, hA0, hV, rfl, hfz, hnd⟩ := hW
  have hA : DataW.TrodAll enc Try.prog W 0 (fun _ => true) true Try.f5.params.toList args.toList ds p := hA0
  rw [Try.params5] at hA hval
  obtain ⟨v0, vs0, d0, ds0, p0, q0, hargs, rfl, rfl, h0, r0⟩ := trodAll_cons hA
  obtain ⟨rfl, rfl, rfl⟩ := trodAll_nil r0
  obtain rfl : args = #[v0] := by cases args; simp_all
  obtain ⟨rfl, rfl⟩ := trodVars_none hV
  have k0 := h0
  have lt0 : ∀ x ∈ p0, x.block < W.heap.size := by obtain ⟨m, hm⟩ := k0; exact DataW.trod_lt m _ _ _ hm
  obtain ⟨a0, len0, cap0, rfl⟩ := okWide_slice Try.underlying22 (hval 0 22 v0 rfl rfl)
  obtain ⟨z0, ir0⟩ : ∃ zs, IsRow .u8 W a0 len0 cap0 zs := by
    obtain ⟨fuel, hf⟩ := h0
    rcases open_ints Try.underlying22 Try.underlying5 (by kernel_rfl) hf with ⟨hcs, _⟩ | ⟨x, l, c, zs, hcs, _, hl, hm, hz, _, hcell, hwz⟩
    · simp [Value.cells] at hcs
      obtain ⟨rfl, rfl, rfl⟩ := hcs
      exact ⟨[], .inl ⟨rfl, rfl, rfl, rfl⟩⟩
    · simp [Value.cells] at hcs
      obtain ⟨rfl, rfl, rfl⟩ := hcs
      exact ⟨zs, .inr ⟨_, rfl, hl, hm, by simpa using hz, hcell, hwz⟩⟩
  clear hA0 hval0
  refine (walk_FnReduced a0 len0 cap0 z0 W ir0).mono fun e W' ⟨he, bel⟩ => ?_
  subst he
  exact ⟨_, rfl, _, _, _, [], _, [], hW', trodAll_mk1 (shut_bool Try.underlying4 _), (trodAll_cons_mk (Below.trod laidOut (by kernel_rfl) (of_decide_eq_true (by kernel_rfl)) k0 bel lt0) trodAll_mk0), rfl, bel.frame _, fun h => by cases h⟩
theorem over_FnReduced : Rows.fnReducedRow.holds Try.pinned (OpenSpec.ofChange Rows.fnReducedSpec) :=
  OpenClaim.holds_of_wide 5 Try.f5 rfl rfl rfl rfl rfl rfl rfl ⟨rfl, rfl, rfl, rfl, rfl⟩ rfl rfl rfl rfl rfl (by kernel_rfl) Try.func5 (by kernel_rfl)
    (of_decide_eq_true (by kernel_rfl)) (by unfold Func.isWrapper; first | (rw [if_pos (by decide +kernel)]; kernel_rfl) | (rw [if_neg (by decide +kernel)]; exact ⟨rfl, rfl⟩))
    (fun os started H enc _ => lifted_FnReduced os started H enc)
/-- The statement. -/
theorem holds_FnReduced : Rows.FnReducedSaid := over_FnReduced
#print axioms holds_FnReduced

end Go.Proofs.Ytkjakgemjhbfoaa
