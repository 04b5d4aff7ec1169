/-
  The surd of a head and a period: the program's way.
-/
import Derived.Test.YtibbokllongomaaDoorCnv
import Derived.Test.YtibbokllongomaaDoorSurd
import Derived.Test.YtibbokllongomaaDoorRow
namespace Go.Proofs.YtibbokllongomaaDoor
open Go.RowKit

theorem tdiv_ex {a g : Int} (h : g ∣ a) : a.tdiv g = a / g := Int.tdiv_eq_ediv_of_dvd h
theorem part_le {a x : Int} {g : Nat} (h : a = (g : Int) * x) (hg : 1 ≤ g) : x.natAbs ≤ a.natAbs := by
  rw [h, Int.natAbs_mul, Int.natAbs_natCast]
  exact Nat.le_mul_of_pos_left _ (by omega)
set_option maxHeartbeats 2000000 in
theorem purely_raw (p q p0 q0 A B C P D Q : Int) (G : Nat) (hG : (Int.gcd ((Int.gcd q (q0 - p) : Nat) : Int) (-p0)) = G) (b1 : 0 ≤ p ∧ p ≤ 1000000000) (b2 : 0 ≤ q ∧ q ≤ 1000000000) (b3 : 0 ≤ p0 ∧ p0 ≤ 1000000000) (b4 : 0 ≤ q0 ∧ q0 ≤ 1000000000) (hg : (G : Int) ≠ 0)
    (eA : q.tdiv (G : Int) = A) (eB : (q0 - p).tdiv (G : Int) = B) (eC : (-p0).tdiv (G : Int) = C) (c1 : A.natAbs ≤ 1000000000) (c2 : B.natAbs ≤ 1000000000) (c3 : C.natAbs ≤ 1000000000)
    (h0 : B.tmod 2 = 0 → (-B).tdiv 2 = P ∧ (B * B - 4 * A * C).tdiv 4 = D ∧ (2 * A).tdiv 2 = Q) (h1 : B.tmod 2 ≠ 0 → -B = P ∧ B * B - 4 * A * C = D ∧ 2 * A = Q) (w : World) :
    Calls Tryd.prog 42 #[.int .i64 p, .int .i64 q, .int .i64 p0, .int .i64 q0] w (Ret w (.agg #[.int .i64 P, .int .i64 D, .int .i64 Q])) := by
  have hG1 : Int.gcd q (q0 - p) ≤ 1000000000 := by
    by_cases hz : q = 0
    · subst hz
      rw [Int.gcd_zero_left]
      omega
    · have := Nat.le_of_dvd (by omega) (Int.natAbs_dvd_natAbs.2 (Int.gcd_dvd_left q (q0 - p)))
      rw [Int.natAbs_natCast] at this
      omega
  have k1 := fun w => gcd_any q (q0 - p) (by omega) (by omega) (by omega) (by omega) w
  generalize Int.gcd q (q0 - p) = g1 at *
  have k2 := fun w => gcd_any (g1 : Int) (-p0) (by omega) (by omega) (by omega) (by omega) w
  rw [hG] at k2
  have hG2 : G ≤ 1000000000 := by
    by_cases hz : g1 = 0
    · subst hz
      rw [← hG, Int.natCast_zero, Int.gcd_zero_left]
      omega
    · have := Nat.le_of_dvd (by omega) (Int.natAbs_dvd_natAbs.2 (Int.gcd_dvd_left (g1 : Int) (-p0)))
      rw [hG, Int.natAbs_natCast, Int.natAbs_natCast] at this
      omega
  obtain ⟨m1, m2⟩ := mulb (a := B) (b := B) (by omega) (by omega) (by omega) (by omega)
  obtain ⟨m3, m4⟩ := mulb (a := A) (b := C) (by omega) (by omega) (by omega) (by omega)
  rw [Int.mul_assoc] at h0 h1
  have m5 : 4 * A * C = 4 * (A * C) := Int.mul_assoc _ _ _
  clear hG hG1
  by_cases hB : B.tmod 2 = 0
  · obtain ⟨e1, e2, e3⟩ := h0 hB
    clear h0 h1
    have t1 : P.natAbs = (-B).natAbs / 2 := by rw [← e1]; exact Int.natAbs_tdiv _ _
    have t2 : D.natAbs = (B * B - 4 * (A * C)).natAbs / 4 := by rw [← e2]; exact Int.natAbs_tdiv _ _
    have t3 : Q.natAbs = (2 * A).natAbs / 2 := by rw [← e3]; exact Int.natAbs_tdiv _ _
    have bP : -1000000000 ≤ P ∧ P ≤ 1000000000 := by omega
    have bD : -5000000000000000000 ≤ D ∧ D ≤ 5000000000000000000 := by omega
    have bQ : -2000000000 ≤ Q ∧ Q ≤ 2000000000 := by omega
    clear t1 t2 t3
    go_enter Tryd.func42, Tryd.ntmps42
    go_wp2_with fail
    apply Calls.mono
    · with_reducible exact k1 _
    rintro _ w1 ⟨rfl, hb_w1⟩
    obtain ⟨hc_w1, hf_w1, hs_w1⟩ := bcell hb_w1
    try simp at hs_w1
    have hz_w1_w0 : w.heap.size < w1.heap.size := by omega
    have hy_w1_w0 : w.heap.size ≤ w1.heap.size := by omega
    have hx_w1_w0 : ∀ n : Nat, w.heap.size < w1.heap.size + n := by intro n; omega
    have hv_w1_w0 : ∀ n : Nat, w.heap.size ≤ w1.heap.size + n := by intro n; omega
    go_wp2_with fail
    apply Calls.mono
    · with_reducible exact k2 _
    rintro _ w2 ⟨rfl, hb_w2⟩
    obtain ⟨hc_w2, hf_w2, hs_w2⟩ := bcell hb_w2
    try simp at hs_w2
    have hz_w2_w0 : w.heap.size < w2.heap.size := by omega
    have hy_w2_w0 : w.heap.size ≤ w2.heap.size := by omega
    have hx_w2_w0 : ∀ n : Nat, w.heap.size < w2.heap.size + n := by intro n; omega
    have hv_w2_w0 : ∀ n : Nat, w.heap.size ≤ w2.heap.size + n := by intro n; omega
    go_wp2_with fail
    refine wp_region_calm (by kernel_rfl) (by kernel_rfl) ?_
    repeat (go_big_quiet_step ((fail)))
    refine wpQuiet_nil ?_
    intro w3 hb_w3
    obtain ⟨hc_w3, hf_w3, hs_w3⟩ := bcell hb_w3
    try simp at hs_w3
    have hz_w3_w0 : w.heap.size < w3.heap.size := by omega
    have hy_w3_w0 : w.heap.size ≤ w3.heap.size := by omega
    have hx_w3_w0 : ∀ n : Nat, w.heap.size < w3.heap.size + n := by intro n; omega
    have hv_w3_w0 : ∀ n : Nat, w.heap.size ≤ w3.heap.size + n := by intro n; omega
    go_wp2
    refine bodyPost_ret (by simp [results, Tryd.results42, go_sem, *]; try rfl) rfl ?_
    refine ⟨by first | rfl | simp, ?_⟩
    repeat' (first | (with_reducible exact Below.refl _ _) | (with_reducible assumption) | (with_reducible refine Below.alloc ?_ ?_ _) | (with_reducible refine Below.drew ?_) | (with_reducible refine bdrewN ?_ _) | (with_reducible refine Below.setCell ?_ ?_ _) | (with_reducible refine bthen ?_ (by assumption) ?_) | go_size)
  · obtain ⟨e1, e2, e3⟩ := h1 hB
    clear h0 h1
    have bP : -1000000000 ≤ P ∧ P ≤ 1000000000 := by omega
    have bD : -5000000000000000000 ≤ D ∧ D ≤ 5000000000000000000 := by omega
    have bQ : -2000000000 ≤ Q ∧ Q ≤ 2000000000 := by omega
    go_enter Tryd.func42, Tryd.ntmps42
    go_wp2_with fail
    apply Calls.mono
    · with_reducible exact k1 _
    rintro _ w1 ⟨rfl, hb_w1⟩
    obtain ⟨hc_w1, hf_w1, hs_w1⟩ := bcell hb_w1
    try simp at hs_w1
    have hz_w1_w0 : w.heap.size < w1.heap.size := by omega
    have hy_w1_w0 : w.heap.size ≤ w1.heap.size := by omega
    have hx_w1_w0 : ∀ n : Nat, w.heap.size < w1.heap.size + n := by intro n; omega
    have hv_w1_w0 : ∀ n : Nat, w.heap.size ≤ w1.heap.size + n := by intro n; omega
    go_wp2_with fail
    apply Calls.mono
    · with_reducible exact k2 _
    rintro _ w2 ⟨rfl, hb_w2⟩
    obtain ⟨hc_w2, hf_w2, hs_w2⟩ := bcell hb_w2
    try simp at hs_w2
    have hz_w2_w0 : w.heap.size < w2.heap.size := by omega
    have hy_w2_w0 : w.heap.size ≤ w2.heap.size := by omega
    have hx_w2_w0 : ∀ n : Nat, w.heap.size < w2.heap.size + n := by intro n; omega
    have hv_w2_w0 : ∀ n : Nat, w.heap.size ≤ w2.heap.size + n := by intro n; omega
    go_wp2_with fail
    refine wp_region_calm (by kernel_rfl) (by kernel_rfl) ?_
    repeat (go_big_quiet_step ((fail)))
    refine wpQuiet_nil ?_
    intro w3 hb_w3
    obtain ⟨hc_w3, hf_w3, hs_w3⟩ := bcell hb_w3
    try simp at hs_w3
    have hz_w3_w0 : w.heap.size < w3.heap.size := by omega
    have hy_w3_w0 : w.heap.size ≤ w3.heap.size := by omega
    have hx_w3_w0 : ∀ n : Nat, w.heap.size < w3.heap.size + n := by intro n; omega
    have hv_w3_w0 : ∀ n : Nat, w.heap.size ≤ w3.heap.size + n := by intro n; omega
    go_wp2
    refine bodyPost_ret (by simp [results, Tryd.results42, go_sem, *]; try rfl) rfl ?_
    refine ⟨by first | rfl | simp, ?_⟩
    repeat' (first | (with_reducible exact Below.refl _ _) | (with_reducible assumption) | (with_reducible refine Below.alloc ?_ ?_ _) | (with_reducible refine Below.drew ?_) | (with_reducible refine bdrewN ?_ _) | (with_reducible refine Below.setCell ?_ ?_ _) | (with_reducible refine bthen ?_ (by assumption) ?_) | go_size)
theorem purely_any (M : Mt) (hp : PosM M) (hb : M.1.1 ≤ 1000000000) (w : World) :
    Calls Tryd.prog 42 #[.int .i64 M.1.1, .int .i64 M.1.2, .int .i64 M.2.1, .int .i64 M.2.2] w (Ret w (.agg #[.int .i64 (puP M), .int .i64 (puD M), .int .i64 (puQ M)])) := by
  have hg := pu_gpos hp
  obtain ⟨d1, d2, d3⟩ := pu_dvd M
  obtain ⟨a1, a2, a3⟩ := pu_eqs M
  obtain ⟨q1, q2, q3, q4, q5, q6, q7, _⟩ := hp
  have c1 := part_le a1 hg
  have c2 := part_le a2 hg
  have c3 := part_le a3 hg
  refine purely_raw M.1.1 M.1.2 M.2.1 M.2.2 (puA M) (puB M) (puC M) (puP M) (puD M) (puQ M) (puG M) rfl (by omega) (by omega) (by omega) (by omega) (by omega) (tdiv_ex d1) (tdiv_ex d2) (tdiv_ex d3) (by omega) (by omega) (by omega) ?_ ?_ w
  · intro h
    have h2 : puB M % 2 = 0 := by have := Int.dvd_of_tmod_eq_zero h; omega
    unfold puP puD puQ
    rw [if_pos h2, if_pos h2, if_pos h2]
    obtain ⟨k, hk⟩ : ∃ k, puB M = 2 * k := ⟨puB M / 2, by omega⟩
    refine ⟨tdiv_ex (by omega), tdiv_ex ?_, Int.mul_tdiv_cancel_left _ (by decide)⟩
    rw [hk]
    exact ⟨k * k - puA M * puC M, by grind⟩
  · intro h
    have h2 : ¬ puB M % 2 = 0 := fun e => h (Int.tmod_eq_zero_of_dvd (by omega))
    unfold puP puD puQ
    rw [if_neg h2, if_neg h2, if_neg h2]
    exact ⟨rfl, rfl, rfl⟩
theorem sf_none {d : Int} {x : Int × Int} (h : okX d x = false) : ∀ l : List Int, sfH d l x = none
  | [] => by unfold sfH; rw [h]; rfl
  | t :: ts => by unfold sfH; rw [sf_none h ts]
theorem sf_drop {d : Int} {h : List Int} {x : Int × Int} {m : Nat} {t : Int} (ht : h[m]? = some t) : sfH d (h.drop m) x = (match sfH d (h.drop (m + 1)) x with
    | some y => if okX d (t * blX d y - y.1, blX d y) then some (t * blX d y - y.1, blX d y) else none
    | none => none) := by
  have hm : m < h.length := by
    rcases Nat.lt_or_ge m h.length with h' | h'
    · exact h'
    · rw [List.getElem?_eq_none h'] at ht; cases ht
  have e : h[m] = t := by rw [List.getElem?_eq_getElem hm] at ht; injection ht
  rw [List.drop_eq_getElem_cons hm, e]
  rfl
theorem sf_stop {d : Int} {x : Int × Int} : ∀ {h : List Int} {m : Nat}, sfH d (h.drop m) x = none → sfH d h x = none
  | h, 0, e => by simpa using e
  | h, m + 1, e => by
    cases ht : h[m]? with
    | none =>
      have : h.length ≤ m := List.getElem?_eq_none_iff.1 ht
      rw [List.drop_of_length_le (by omega)] at e
      have e2 : sfH d (h.drop m) x = none := by rw [List.drop_of_length_le (by omega)]; exact e
      exact sf_stop e2
    | some t =>
      refine sf_stop (m := m) ?_
      rw [sf_drop ht, e]
theorem okX_far {d p q : Int} (h : 1000000 < q.natAbs) : okS p d q = false := by
  have : inB q (-1000000) 1000000 = false := by
    cases e : inB q (-1000000) 1000000
    · rfl
    · have := inB_iff.1 e; omega
  unfold okS
  rw [this]
  simp
theorem blX_bd {d : Int} {y : Int × Int} (h : okX d y = true) : (blX d y).natAbs ≤ 1000001000000 := by
  obtain ⟨a1, a2, a3, a4, a5, a6, a7, _⟩ := okS_bd h
  unfold blX
  rw [Int.natAbs_tdiv]
  have h4 : y.1 * y.1 = ((y.1.natAbs * y.1.natAbs : Nat) : Int) := by rw [Int.natAbs_mul_self]
  have h5 : y.1.natAbs * y.1.natAbs ≤ 1000000 * 1000000 := Nat.mul_le_mul (by omega) (by omega)
  have h6 : (d - y.1 * y.1).natAbs ≤ 1000001000000 := by omega
  exact Nat.le_trans (Nat.div_le_self _ _) h6
def SlR (w : World) (l : List Int) (k : Nat) (p q p0 q0 i : Value) (wr : World) : Prop :=
  ∃ j : Nat, j ≤ l.length ∧ l.length ≤ j + k ∧ i = .int .i64 j ∧ p = .int .i64 (mtx (l.take j)).1.1 ∧ q = .int .i64 (mtx (l.take j)).1.2 ∧ p0 = .int .i64 (mtx (l.take j)).2.1 ∧ q0 = .int .i64 (mtx (l.take j)).2.2 ∧ wr = w
def ShR (w : World) (B R : Nat) (d : Int) (h : List Int) (x : Int × Int) (k : Nat) (i : Value) (wr : World) : Prop :=
  ∃ (m : Nat) (y : Int × Int), m ≤ h.length ∧ m ≤ k ∧ i = .int .i64 ((m : Int) - 1) ∧ sfH d (h.drop m) x = some y ∧
    Blk wr B 28 #[.int .i64 y.1, .int .i64 d, .int .i64 y.2] ∧ Blk wr R 28 #[.int .i64 0, .int .i64 0, .int .i64 0] ∧ B ≠ R ∧ Below w.heap.size w wr
theorem mt_pos {h l : List Int} (hp : pdB h l = true) (hf : fitL (h ++ l) = true) {j : Nat} (hj : j ≤ l.length) : (0 ≤ (mtx (l.take j)).1.1 ∧ (mtx (l.take j)).1.1 ≤ 1000000000) ∧ (0 ≤ (mtx (l.take j)).1.2 ∧ (mtx (l.take j)).1.2 ≤ 1000000000) ∧ (0 ≤ (mtx (l.take j)).2.1 ∧ (mtx (l.take j)).2.1 ≤ 1000000000) ∧ (0 ≤ (mtx (l.take j)).2.2 ∧ (mtx (l.take j)).2.2 ≤ 1000000000) := by
  cases Nat.eq_zero_or_pos j with
  | inl e => subst e; simp [mtx]
  | inr e =>
    obtain ⟨⟨q1, q2, q3, q4, q5, q6, q7, _⟩, hb⟩ := fit_period hp hf e hj
    omega
set_option maxHeartbeats 2000000 in
set_option maxRecDepth 100000 in
theorem surdFromI_any (v1 v2 : Value) (n1 n2 : Nat) (hs ls : List Int) (w : World) (h1 : Rs w 1 v1 n1 (ints hs)) (h2 : Rs w 1 v2 n2 (ints ls)) (b1 : n1 ≤ 1048576) (b2 : n2 ≤ 1048576) :
    Calls Tryd.prog 10 #[v1, v2] w (Ret w (.tuple #[.agg #[.int .i64 (sfM hs ls).1.1, .int .i64 (sfM hs ls).1.2.1, .int .i64 (sfM hs ls).1.2.2], .int .i64 (sfM hs ls).2])) := by
  have l1 : hs.length = n1 := by have := (rd_len h1.1).1; rw [ints_len] at this; omega
  have l2 : ls.length = n2 := by have := (rd_len h2.1).1; rw [ints_len] at this; omega
  obtain ⟨A1, k1, rfl, -⟩ := id h1.1
  obtain ⟨A2, k2, rfl, -⟩ := id h2.1
  have kA := fun w' (hb : Below w.heap.size w w') => arePeriodic_any _ _ n1 n2 hs ls w' (h1.below hb (Nat.le_refl _)) (h2.below hb (Nat.le_refl _)) b1 b2 _ rfl
  cases hp : pdB hs ls
  · have hM : sfM hs ls = ((0, 0, 0), 2) := by unfold sfM; rw [hp]; rfl
    rw [hM]
    rw [hp] at kA
    clear h1 h2 l1 l2 hp hM
    go_enter Tryd.func10, Tryd.ntmps10
    go_wp2_with fail
    apply Calls.mono
    · with_reducible exact kA _ ((Below.refl _ _).alloc (Nat.le_refl _) _)
    rintro _ w1 ⟨rfl, hb_w1⟩
    obtain ⟨hc_w1, hf_w1, hs_w1⟩ := bcell hb_w1
    try simp at hs_w1
    have hz_w1_w0 : w.heap.size < w1.heap.size := by omega
    have hy_w1_w0 : w.heap.size ≤ w1.heap.size := by omega
    have hx_w1_w0 : ∀ n : Nat, w.heap.size < w1.heap.size + n := by intro n; omega
    have hv_w1_w0 : ∀ n : Nat, w.heap.size ≤ w1.heap.size + n := by intro n; omega
    go_wp2
    refine bodyPost_ret (by simp [results, Tryd.results10, go_sem, *]; try rfl) rfl ?_
    refine ⟨by first | rfl | simp, ?_⟩
    repeat' (first | (with_reducible exact Below.refl _ _) | (with_reducible assumption) | (with_reducible refine Below.alloc ?_ ?_ _) | (with_reducible refine Below.drew ?_) | (with_reducible refine bdrewN ?_ _) | (with_reducible refine Below.setCell ?_ ?_ _) | (with_reducible refine bthen ?_ (by assumption) ?_) | go_size)
  · rw [hp] at kA
    obtain ⟨M, hM⟩ : ∃ M, sfM hs ls = M := ⟨_, rfl⟩
    rw [hM]
    have HM0 := Lib.hid hM
    clear hM
    have H1 := Lib.hid h1
    have H2 := Lib.hid h2
    have L1 := Lib.hid l1
    have L2 := Lib.hid l2
    have HP := Lib.hid hp
    clear h1 h2 l1 l2 hp
    go_enter Tryd.func10, Tryd.ntmps10
    go_wp2_with fail
    apply Calls.mono
    · with_reducible exact kA _ ((Below.refl _ _).alloc (Nat.le_refl _) _)
    rintro _ w1 ⟨rfl, hb_w1⟩
    obtain ⟨hc_w1, hf_w1, hs_w1⟩ := bcell hb_w1
    try simp at hs_w1
    have hz_w1_w0 : w.heap.size < w1.heap.size := by omega
    have hy_w1_w0 : w.heap.size ≤ w1.heap.size := by omega
    have hx_w1_w0 : ∀ n : Nat, w.heap.size < w1.heap.size + n := by intro n; omega
    have hv_w1_w0 : ∀ n : Nat, w.heap.size ≤ w1.heap.size + n := by intro n; omega
    have bel1 : Below w.heap.size w w1 := bthen ((Below.refl _ _).alloc (Nat.le_refl _) _) hb_w1 (by rw [World.size_alloc]; omega)
    have hnew := new2 w1 24 (.slice A1 n1 k1) (.slice A2 n2 k2)
    have hlt : w1.heap.size < (w1.alloc (.cells #[.slice A1 n1 k1, .slice A2 n2 k2] 24)).heap.size := by rw [World.size_alloc]; omega
    have kC := concat_any w1.heap.size _ _ n1 n2 hs ls _ ((H1.out.below bel1 (Nat.le_refl _)).alloc _) ((H2.out.below bel1 (Nat.le_refl _)).alloc _) b1 b2 hlt hnew.1 hnew.2
    clear hnew hlt
    go_wp2_with fail
    apply Calls.mono
    · with_reducible exact kC
    rintro _ w2 ⟨vc, rfl, hownc, hb_w2⟩
    have bel2 : Below w.heap.size w w2 := bthen (bel1.alloc (by omega) _) hb_w2 (by rw [World.size_alloc]; omega)
    have hB1 := Blk.new w 28 #[.int .i64 0, .int .i64 0, .int .i64 0]
    have hlw : w.heap.size < (w.alloc (.cells #[.int .i64 0, .int .i64 0, .int .i64 0] 28)).heap.size := by rw [World.size_alloc]; omega
    have hB2 := ((hB1.below hb_w1 hlw).alloc (.cells #[.slice A1 n1 k1, .slice A2 n2 k2] 24)).below hb_w2 (by rw [World.size_alloc]; have := hb_w1.size; omega)
    have hC : tmsB (hs ++ ls) = true := by
      have := HP.out
      unfold pdB at this
      exact (Bool.and_eq_true_iff.1 this).2
    have kV := convergents_any vc (n1 + n2) (hs ++ ls) w2 (Rd.of_own hownc) hC
    have q2 := bel2.size
    have q2' := hB2.lt
    clear hB1 hownc kC
    go_wp2_with fail
    apply Calls.mono
    · with_reducible exact kV
    rintro _ w3 ⟨vf, rfl, -, hb_w3⟩
    have hB3 := hB2.below hb_w3 q2'
    have bel3 : Below w.heap.size w w3 := bthen bel2 hb_w3 q2
    have q3 := bel3.size
    have q3' := hB3.lt
    clear hB2 kV hb_w1 hb_w2 hb_w3 hc_w1 hf_w1 bel1 bel2
    have c0 : w3.cell? ⟨w.heap.size, 0, none⟩ = some (.int .i64 0) := hB3.cell 0
    have c1 : w3.cell? ⟨w.heap.size, 1, none⟩ = some (.int .i64 0) := hB3.cell 1
    have c2 : w3.cell? ⟨w.heap.size, 2, none⟩ = some (.int .i64 0) := hB3.cell 2
    have f0 : w3.frozen? ⟨w.heap.size, 0, none⟩ = false := hB3.frozen 0
    have f1 : w3.frozen? ⟨w.heap.size, 1, none⟩ = false := hB3.frozen 1
    have f2 : w3.frozen? ⟨w.heap.size, 2, none⟩ = false := hB3.frozen 2
    cases hf : fitL (hs ++ ls)
    · obtain rfl : M = ((0, 0, 0), 5) := by rw [← HM0.out]; unfold sfM; rw [HP.out, hf]; rfl
      clear hf
      go_wp2
      refine bodyPost_ret (by simp [results, Tryd.results10, go_sem, *]; try rfl) rfl ?_
      refine ⟨by first | rfl | simp, ?_⟩
      repeat' (first | (with_reducible exact Below.refl _ _) | (with_reducible assumption) | (with_reducible refine Below.alloc ?_ ?_ _) | (with_reducible refine Below.drew ?_) | (with_reducible refine bdrewN ?_ _) | (with_reducible refine Below.setCell ?_ ?_ _) | (with_reducible refine bthen ?_ (by assumption) ?_) | go_size)
    · have HF := Lib.hid hf
      have HB3 := Lib.hid hB3
      clear hf hB3
      go_wp2_with fail
      go_loopg [8, 9, 10, 11, 35] n2 (fun k p q p0 q0 i wr => SlR w3 ls k p q p0 q0 i wr)
      case atStart => exact ⟨0, by omega, by have := L2.out; omega, rfl, rfl, rfl, rfl, rfl, rfl⟩
      case round =>
        obtain ⟨j, hj1, hj2, rfl, rfl, rfl, rfl, rfl, hw⟩ := hrel
        obtain rfl := hw.symm
        have l2 := L2.out
        by_cases hjn : j < n2
        · obtain ⟨t, hz⟩ := get_ex (l := ls) (k := j) (by omega)
          rcases (H2.out.below bel3 (Nat.le_refl _)).1 with ⟨A, c, hA, e1, e2, e3, h0 | ⟨g, o, hA2, hg, hcell⟩⟩
          · omega
          injection hA with hA _ hcc
          subst hcc
          subst hA
          subst hA2
          have c1 : w3.cell? ⟨g, o + j, none⟩ = some (.int .i64 t) := hcell j _ (ints_get hz)
          have hjn' : (j : Int) < (n2 : Int) := by omega
          obtain ⟨⟨b3, b4⟩, ⟨b5, b6⟩, ⟨b7, b8⟩, ⟨b9, b10⟩⟩ := mt_pos HP.out HF.out (j := j) (by omega)
          have ht := (pd_facts HP.out).2.1 t (List.mem_of_getElem? hz)
          have hM : mtx (ls.take (j + 1)) = mtS (mtx (ls.take j)) t := by rw [take_snoc hz, mtx_snoc]
          have hM2 : (mtx (ls.take (j + 1))).1.1 = t * (mtx (ls.take j)).1.1 + (mtx (ls.take j)).2.1 ∧ (mtx (ls.take (j + 1))).1.2 = t * (mtx (ls.take j)).1.2 + (mtx (ls.take j)).2.2 ∧ (mtx (ls.take (j + 1))).2.1 = (mtx (ls.take j)).1.1 ∧ (mtx (ls.take (j + 1))).2.2 = (mtx (ls.take j)).1.2 := by rw [hM]; exact ⟨rfl, rfl, rfl, rfl⟩
          have HM := Lib.hid hM2
          clear hz hcell hM hM2
          generalize (mtx (ls.take j)).1.1 = p at *
          generalize (mtx (ls.take j)).1.2 = q at *
          generalize (mtx (ls.take j)).2.1 = p0 at *
          generalize (mtx (ls.take j)).2.2 = q0 at *
          obtain ⟨m1, m2⟩ := mulb (a := t) (b := p) (by omega) (by omega) (by omega) (by omega)
          obtain ⟨m3, m4⟩ := mulb (a := t) (b := q) (by omega) (by omega) (by omega) (by omega)
          go_wp2
          go_roundg (gk - 1)
          case measure => omega
          case rel =>
            exact ⟨j + 1, by omega, by omega, by go_num, by rw [HM.out.1], by rw [HM.out.2.1], by rw [HM.out.2.2.1], by rw [HM.out.2.2.2], rfl⟩
        · obtain rfl : j = n2 := by omega
          have hls : ls.take j = ls := List.take_of_length_le (by omega)
          rw [hls]
          obtain ⟨p1, p2, p3, p4, p5, p6⟩ := pd_facts HP.out
          obtain ⟨hpos, hpb⟩ := fit_period HP.out HF.out p6 (Nat.le_refl _)
          rw [List.take_of_length_le (Nat.le_refl _)] at hpos hpb
          have kP := fun w => purely_any (mtx ls) hpos hpb w
          have hM1 : M = (match sfH (puD (mtx ls)) hs (pqP ls) with
            | some y => ((y.1, puD (mtx ls), y.2), 0)
            | none => ((0, 0, 0), 5)) := by rw [← HM0.out]; unfold sfM; rw [HP.out, HF.out]; rfl
          have HMM := Lib.hid hM1
          have P4 := Lib.hid p4
          clear hM1 hls p1 p2 p3 p4 p5 p6 hpos hpb hj1 hj2 hjn
          have kO := fun r (hr : okX (puD (mtx ls)) (pqP ls) = r) w => validSurd_any (puP (mtx ls)) (puD (mtx ls)) (puQ (mtx ls)) r hr w
          have hx : pqP ls = (puP (mtx ls), puQ (mtx ls)) := rfl
          generalize puD (mtx ls) = d at *
          generalize pqP ls = x at *
          obtain ⟨hx1, hx2⟩ : puP (mtx ls) = x.1 ∧ puQ (mtx ls) = x.2 := by rw [hx]; exact ⟨rfl, rfl⟩
          clear hx
          generalize puP (mtx ls) = xp at *
          generalize puQ (mtx ls) = xq at *
          subst hx1
          subst hx2
          cases hok : okX d x
          · obtain rfl : M = ((0, 0, 0), 5) := by rw [HMM.out, sf_none hok]
            have kO1 := kO false hok
            have HB := HB3.out
            clear kO hok HMM HM0
            go_wp2_with fail
            apply Calls.mono
            · with_reducible exact kP _
            rintro _ w4 ⟨rfl, hb_w4⟩
            have HB4 := HB.below hb_w4 q3'
            have bel4 := bthen bel3 hb_w4 q3
            have q4 := bel4.size
            have q4' := HB4.lt
            have c0 : w4.cell? ⟨w.heap.size, 0, none⟩ = some (.int .i64 0) := HB4.cell 0
            have c1 : w4.cell? ⟨w.heap.size, 1, none⟩ = some (.int .i64 0) := HB4.cell 1
            have c2 : w4.cell? ⟨w.heap.size, 2, none⟩ = some (.int .i64 0) := HB4.cell 2
            have f0 : w4.frozen? ⟨w.heap.size, 0, none⟩ = false := HB4.frozen 0
            have f1 : w4.frozen? ⟨w.heap.size, 1, none⟩ = false := HB4.frozen 1
            have f2 : w4.frozen? ⟨w.heap.size, 2, none⟩ = false := HB4.frozen 2
            go_wp2_with fail
            apply Calls.mono
            · with_reducible exact kO1 _
            rintro _ w5 ⟨rfl, hb_w5⟩
            have hlx : w.heap.size < (w4.alloc (.cells #[.int .i64 x.1, .int .i64 d, .int .i64 x.2] 28)).heap.size := by rw [World.size_alloc]; omega
            have HB5 := (HB4.alloc (.cells #[.int .i64 x.1, .int .i64 d, .int .i64 x.2] 28)).below hb_w5 hlx
            have bel5 : Below w.heap.size w w5 := bthen (bel4.alloc q4 _) hb_w5 (Nat.le_of_lt hlx)
            have q5 := bel5.size
            have q5' := HB5.lt
            have c0 : w5.cell? ⟨w.heap.size, 0, none⟩ = some (.int .i64 0) := HB5.cell 0
            have c1 : w5.cell? ⟨w.heap.size, 1, none⟩ = some (.int .i64 0) := HB5.cell 1
            have c2 : w5.cell? ⟨w.heap.size, 2, none⟩ = some (.int .i64 0) := HB5.cell 2
            have f0 : w5.frozen? ⟨w.heap.size, 0, none⟩ = false := HB5.frozen 0
            have f1 : w5.frozen? ⟨w.heap.size, 1, none⟩ = false := HB5.frozen 1
            have f2 : w5.frozen? ⟨w.heap.size, 2, none⟩ = false := HB5.frozen 2
            clear hb_w5 hb_w4 HB4 HB bel4 bel3
            go_wp2
            refine bodyPost_ret (by simp [results, Tryd.results10, go_sem, *]; try rfl) rfl ?_
            refine ⟨by first | rfl | simp, ?_⟩
            repeat' (first | (with_reducible exact Below.refl _ _) | (with_reducible assumption) | (with_reducible refine Below.alloc ?_ ?_ _) | (with_reducible refine Below.drew ?_) | (with_reducible refine bdrewN ?_ _) | (with_reducible refine Below.setCell ?_ ?_ _) | (with_reducible refine bthen ?_ (by assumption) ?_) | go_size)
          · have kO1 := kO true hok
            have HB := HB3.out
            have HOK := Lib.hid hok
            clear kO hok HM0
            go_wp2_with fail
            apply Calls.mono
            · with_reducible exact kP _
            rintro _ w4 ⟨rfl, hb_w4⟩
            have HB4 := HB.below hb_w4 q3'
            have bel4 := bthen bel3 hb_w4 q3
            have q4 := bel4.size
            have q4' := HB4.lt
            have c0 : w4.cell? ⟨w.heap.size, 0, none⟩ = some (.int .i64 0) := HB4.cell 0
            have c1 : w4.cell? ⟨w.heap.size, 1, none⟩ = some (.int .i64 0) := HB4.cell 1
            have c2 : w4.cell? ⟨w.heap.size, 2, none⟩ = some (.int .i64 0) := HB4.cell 2
            go_wp2_with fail
            apply Calls.mono
            · with_reducible exact kO1 _
            rintro _ w5 ⟨rfl, hb_w5⟩
            have hlx : w.heap.size < (w4.alloc (.cells #[.int .i64 x.1, .int .i64 d, .int .i64 x.2] 28)).heap.size := by rw [World.size_alloc]; omega
            have hly : w4.heap.size < (w4.alloc (.cells #[.int .i64 x.1, .int .i64 d, .int .i64 x.2] 28)).heap.size := by rw [World.size_alloc]; omega
            have HB5 := (HB4.alloc (.cells #[.int .i64 x.1, .int .i64 d, .int .i64 x.2] 28)).below hb_w5 hlx
            have HS5 := (Blk.new w4 28 #[.int .i64 x.1, .int .i64 d, .int .i64 x.2]).below hb_w5 hly
            have bel5 : Below w.heap.size w w5 := bthen (bel4.alloc q4 _) hb_w5 (Nat.le_of_lt hlx)
            have G1 := Lib.hid HB5
            have G2 := Lib.hid HS5
            have G3 := Lib.hid bel5
            have l1 := L1.out
            have hgB : w.heap.size ≠ w4.heap.size := by omega
            have hg5 : w4.heap.size < w5.heap.size := Nat.lt_of_lt_of_le hly hb_w5.size
            clear hb_w5 hb_w4 HB4 HB bel4 HB5 HS5 bel5 hlx hly c0 c1 c2
            go_wp2_with fail
            go_loopg [15] n1 (fun k i wr => ShR w w4.heap.size w.heap.size d hs x k i wr)
            case atStart =>
              refine ⟨n1, x, by omega, Nat.le_refl _, by go_num, ?_, G2.out, G1.out, Ne.symm hgB, G3.out⟩
              rw [List.drop_of_length_le (by omega)]
              unfold sfH
              rw [HOK.out]; rfl
            case round =>
              obtain ⟨m, y, hm1, hm2, rfl, hy, hBy, hBR, -, hbw⟩ := hrel
              have qr := hbw.size
              have hly := hBy.lt
              have hlr := hBR.lt
              cases m with
              | zero =>
                obtain rfl : M = ((y.1, d, y.2), 0) := by
                  rw [List.drop_zero] at hy
                  rw [HMM.out, hy]
                have c0 : wr.cell? ⟨w4.heap.size, 0, none⟩ = some (.int .i64 y.1) := hBy.cell 0
                have c1 : wr.cell? ⟨w4.heap.size, 1, none⟩ = some (.int .i64 d) := hBy.cell 1
                have c2 : wr.cell? ⟨w4.heap.size, 2, none⟩ = some (.int .i64 y.2) := hBy.cell 2
                have f0 : wr.frozen? ⟨w.heap.size, 0, none⟩ = false := hBR.frozen 0
                have f1 : wr.frozen? ⟨w.heap.size, 1, none⟩ = false := hBR.frozen 1
                have f2 : wr.frozen? ⟨w.heap.size, 2, none⟩ = false := hBR.frozen 2
                have r0 : wr.cell? ⟨w.heap.size, 0, none⟩ = some (.int .i64 0) := hBR.cell 0
                have r1 : wr.cell? ⟨w.heap.size, 1, none⟩ = some (.int .i64 0) := hBR.cell 1
                have r2 : wr.cell? ⟨w.heap.size, 2, none⟩ = some (.int .i64 0) := hBR.cell 2
                obtain ⟨d1, d2, d3, d4, d5, d6, -⟩ := okS_bd (sfH_ok hy)
                clear hy HMM kA
                go_wp2
                refine bodyPost_ret (by simp [results, Tryd.results10, go_sem, *]; try rfl) rfl ?_
                refine ⟨by first | rfl | simp, ?_⟩
                repeat' (first | (with_reducible exact Below.refl _ _) | (with_reducible assumption) | (with_reducible refine Below.alloc ?_ ?_ _) | (with_reducible refine Below.drew ?_) | (with_reducible refine bdrewN ?_ _) | (with_reducible refine Below.setCell ?_ ?_ _) | (with_reducible refine bthen ?_ (by assumption) ?_) | go_size)
              | succ m =>
                obtain ⟨t, hz⟩ := get_ex (l := hs) (k := m) (by omega)
                have hsd := sf_drop (d := d) (x := x) hz
                rw [hy] at hsd
                simp only at hsd
                have hyk := sfH_ok hy
                have hbb := blX_bd hyk
                obtain ⟨d1, d2, d3, d4, d5, d6, d7, -⟩ := okS_bd hyk
                have ht := P4.out t (List.mem_of_getElem? hz)
                obtain ⟨m1, m2⟩ := mulb (a := y.1) (b := y.1) (by omega) (by omega) (by omega) (by omega)
                have hbx : (d - y.1 * y.1).tdiv y.2 = blX d y := rfl
                generalize blX d y = b at *
                rcases (H1.out.below hbw (Nat.le_refl _)).1 with ⟨A, c, hA, e1, e2, e3, h0 | ⟨g, o, hA2, hg, hcell⟩⟩
                · omega
                injection hA with hA _ hcc
                subst hcc
                subst hA
                subst hA2
                have cz : wr.cell? ⟨g, o + m, none⟩ = some (.int .i64 t) := hcell m _ (ints_get hz)
                have hmn : (m : Int) < (n1 : Int) := by omega
                have c0 : wr.cell? ⟨w4.heap.size, 0, none⟩ = some (.int .i64 y.1) := hBy.cell 0
                have c1 : wr.cell? ⟨w4.heap.size, 1, none⟩ = some (.int .i64 d) := hBy.cell 1
                have c2 : wr.cell? ⟨w4.heap.size, 2, none⟩ = some (.int .i64 y.2) := hBy.cell 2
                have f0 : wr.frozen? ⟨w4.heap.size, 0, none⟩ = false := hBy.frozen 0
                have f1 : wr.frozen? ⟨w4.heap.size, 1, none⟩ = false := hBy.frozen 1
                have f2 : wr.frozen? ⟨w4.heap.size, 2, none⟩ = false := hBy.frozen 2
                have HBy := Lib.hid hBy
                have HBR := Lib.hid hBR
                have hm' : ((m + 1 : Nat) : Int) - 1 = (m : Int) := by omega
                rw [hm']
                clear hcell hz hy hyk hBy hBR hm'
                by_cases hfar : 1000000 < b.natAbs
                · have kV := fun p w => validSurd_any p d b false (okX_far hfar) w
                  obtain rfl : M = ((0, 0, 0), 5) := by
                    rw [HMM.out, sf_stop (m := m)]
                    rw [hsd, show okX d (t * b - y.1, b) = false from okX_far hfar]
                    rfl
                  clear hsd HMM
                  go_wp2_with fail
                  go_region
                  all_goals go_wp2_with fail
                  apply Calls.mono
                  · with_reducible exact kV _ _
                  rintro _ w6 ⟨rfl, hb_w6⟩
                  have HR6 := ((((HBR.out.far (p := ⟨w4.heap.size, 0, none⟩) hgB (.int .i64 (wrap64 (wrap64 (t * b) - y.1)))).far (p := ⟨w4.heap.size, 1, none⟩) hgB (.int .i64 d)).far (p := ⟨w4.heap.size, 2, none⟩) hgB (.int .i64 b)).drew).below hb_w6 (by simpa using hlr)
                  have bel6 : Below w.heap.size w w6 := bthen ((((hbw.setCell (p := ⟨w4.heap.size, 0, none⟩) q4 (.int .i64 (wrap64 (wrap64 (t * b) - y.1)))).setCell (p := ⟨w4.heap.size, 1, none⟩) q4 (.int .i64 d)).setCell (p := ⟨w4.heap.size, 2, none⟩) q4 (.int .i64 b)).drew) hb_w6 (by simpa using qr)
                  have lr6 := HR6.lt
                  have r0 : w6.cell? ⟨w.heap.size, 0, none⟩ = some (.int .i64 0) := HR6.cell 0
                  have r1 : w6.cell? ⟨w.heap.size, 1, none⟩ = some (.int .i64 0) := HR6.cell 1
                  have r2 : w6.cell? ⟨w.heap.size, 2, none⟩ = some (.int .i64 0) := HR6.cell 2
                  have g0 : w6.frozen? ⟨w.heap.size, 0, none⟩ = false := HR6.frozen 0
                  have g1 : w6.frozen? ⟨w.heap.size, 1, none⟩ = false := HR6.frozen 1
                  have g2 : w6.frozen? ⟨w.heap.size, 2, none⟩ = false := HR6.frozen 2
                  clear hb_w6 hbw
                  go_wp2
                  refine bodyPost_ret (by simp [results, Tryd.results10, go_sem, *]; try rfl) rfl ?_
                  refine ⟨by first | rfl | simp, ?_⟩
                  repeat' (first | (with_reducible exact Below.refl _ _) | (with_reducible assumption) | (with_reducible refine Below.alloc ?_ ?_ _) | (with_reducible refine Below.drew ?_) | (with_reducible refine bdrewN ?_ _) | (with_reducible refine Below.setCell ?_ ?_ _) | (with_reducible refine bthen ?_ (by assumption) ?_) | go_size)
                · obtain ⟨m3, m4⟩ := mulb (a := t) (b := b) (by omega) (by omega) (by omega) (by omega)
                  have kV := fun r (hr : okX d (t * b - y.1, b) = r) w => validSurd_any (t * b - y.1) d b r hr w
                  cases hq : okX d (t * b - y.1, b)
                  · have kV1 := kV false hq
                    obtain rfl : M = ((0, 0, 0), 5) := by
                      rw [HMM.out, sf_stop (m := m)]
                      rw [hsd, hq]
                      rfl
                    clear hsd HMM kV
                    go_wp2_with fail
                    go_region
                    all_goals go_wp2_with fail
                    apply Calls.mono
                    · with_reducible exact kV1 _
                    rintro _ w6 ⟨rfl, hb_w6⟩
                    have HR6 := ((((HBR.out.far (p := ⟨w4.heap.size, 0, none⟩) hgB (.int .i64 (t * b - y.1))).far (p := ⟨w4.heap.size, 1, none⟩) hgB (.int .i64 d)).far (p := ⟨w4.heap.size, 2, none⟩) hgB (.int .i64 b)).drew).below hb_w6 (by simpa using hlr)
                    have bel6 : Below w.heap.size w w6 := bthen ((((hbw.setCell (p := ⟨w4.heap.size, 0, none⟩) q4 (.int .i64 (t * b - y.1))).setCell (p := ⟨w4.heap.size, 1, none⟩) q4 (.int .i64 d)).setCell (p := ⟨w4.heap.size, 2, none⟩) q4 (.int .i64 b)).drew) hb_w6 (by simpa using qr)
                    have lr6 := HR6.lt
                    have r0 : w6.cell? ⟨w.heap.size, 0, none⟩ = some (.int .i64 0) := HR6.cell 0
                    have r1 : w6.cell? ⟨w.heap.size, 1, none⟩ = some (.int .i64 0) := HR6.cell 1
                    have r2 : w6.cell? ⟨w.heap.size, 2, none⟩ = some (.int .i64 0) := HR6.cell 2
                    have g0 : w6.frozen? ⟨w.heap.size, 0, none⟩ = false := HR6.frozen 0
                    have g1 : w6.frozen? ⟨w.heap.size, 1, none⟩ = false := HR6.frozen 1
                    have g2 : w6.frozen? ⟨w.heap.size, 2, none⟩ = false := HR6.frozen 2
                    clear hb_w6 hbw
                    go_wp2
                    refine bodyPost_ret (by simp [results, Tryd.results10, go_sem, *]; try rfl) rfl ?_
                    refine ⟨by first | rfl | simp, ?_⟩
                    repeat' (first | (with_reducible exact Below.refl _ _) | (with_reducible assumption) | (with_reducible refine Below.alloc ?_ ?_ _) | (with_reducible refine Below.drew ?_) | (with_reducible refine bdrewN ?_ _) | (with_reducible refine Below.setCell ?_ ?_ _) | (with_reducible refine bthen ?_ (by assumption) ?_) | go_size)
                  · have kV1 := kV true hq
                    rw [hq] at hsd
                    have HSD := Lib.hid hsd
                    clear hsd kV hq
                    go_wp2_with fail
                    go_region
                    all_goals go_wp2_with fail
                    apply Calls.mono
                    · with_reducible exact kV1 _
                    rintro _ w6 ⟨rfl, hb_w6⟩
                    have HR6 := ((((HBR.out.far (p := ⟨w4.heap.size, 0, none⟩) hgB (.int .i64 (t * b - y.1))).far (p := ⟨w4.heap.size, 1, none⟩) hgB (.int .i64 d)).far (p := ⟨w4.heap.size, 2, none⟩) hgB (.int .i64 b)).drew).below hb_w6 (by simpa using hlr)
                    have bel6 : Below w.heap.size w w6 := bthen ((((hbw.setCell (p := ⟨w4.heap.size, 0, none⟩) q4 (.int .i64 (t * b - y.1))).setCell (p := ⟨w4.heap.size, 1, none⟩) q4 (.int .i64 d)).setCell (p := ⟨w4.heap.size, 2, none⟩) q4 (.int .i64 b)).drew) hb_w6 (by simpa using qr)
                    have lr6 := HR6.lt
                    have HS6 := ((HBy.out.set3 (.int .i64 (t * b - y.1)) (.int .i64 d) (.int .i64 b)).drew).below hb_w6 (by simpa using hly)
                    clear hb_w6
                    go_wp2
                    go_roundg m
                    case measure => omega
                    case rel =>
                      exact ⟨m, (t * b - y.1, b), by omega, Nat.le_refl _, by go_num, HSD.out, HS6, HR6, Ne.symm hgB, bel6⟩
end Go.Proofs.YtibbokllongomaaDoor
