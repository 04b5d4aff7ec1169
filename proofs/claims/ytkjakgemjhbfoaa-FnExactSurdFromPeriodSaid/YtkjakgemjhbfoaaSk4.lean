/-
  The surd of a period, the reference's way.
-/
import Derived.Test.YtkjakgemjhbfoaaSk2
import Derived.Test.YtkjakgemjhbfoaaSk3
namespace Go.Proofs.Ytkjakgemjhbfoaa
open Go.RowKit

def PuP (w : World) (l : List Int) (e : Ending) (w' : World) : Prop :=
  ∃ a b c : Int, e = .returned (.tuple #[.agg #[.int .i64 a, .int .i64 b, .int .i64 c], .bool (fitL l && okX (puD (mtx l)) (pqP l))]) ∧ ((fitL l && okX (puD (mtx l)) (pqP l)) = true → a = puP (mtx l) ∧ b = puD (mtx l) ∧ c = puQ (mtx l)) ∧ Below w.heap.size w w'
/-- What the walk uses of a matrix: its numbers, by names. -/
structure PuF (p q pp qq A B C : Int) (g1 G : Nat) (P D Q : Int) (r : Bool) : Prop where
  b1 : 0 ≤ p ∧ p ≤ 1000000000
  b2 : 1 ≤ q ∧ q ≤ 1000000000
  b3 : 0 ≤ pp ∧ pp ≤ 1000000000
  b4 : 0 ≤ qq ∧ qq ≤ 1000000000
  g1b : g1 ≤ 1000000000
  gb : 1 ≤ G ∧ G ≤ 1000000000
  hg1 : Nat.gcd q.natAbs (qq - p).natAbs = g1
  hG : Nat.gcd g1 pp.natAbs = G
  eA : q.tdiv (G : Int) = A
  eB : (qq - p).tdiv (G : Int) = B
  eC : (-pp).tdiv (G : Int) = C
  c1 : 1 ≤ A ∧ A ≤ 1000000000
  c2 : B.natAbs ≤ 1000000000
  c3 : C.natAbs ≤ 1000000000
  out : r = true → A ≤ 500000 ∧ B.natAbs ≤ 1000000 ∧ C.natAbs ≤ 1000000
  rr : okS P D Q = r
  h0 : (-B).tmod 2 = 0 → (-B).tdiv 2 = P ∧ (B * B - 4 * (A * C)).tdiv 4 = D ∧ (2 * A).tdiv 2 = Q
  h1 : (-B).tmod 2 ≠ 0 → -B = P ∧ B * B - 4 * (A * C) = D ∧ 2 * A = Q
theorem pu_fact {l : List Int} (h0 : l ≠ []) (hl : ∀ t ∈ l, 1 ≤ t ∧ t ≤ 1000000000) (hf : fitL l = true) :
    PuF (mtx l).1.1 (mtx l).1.2 (mtx l).2.1 (mtx l).2.2 (puA (mtx l)) (puB (mtx l)) (puC (mtx l)) (Int.gcd (mtx l).1.2 ((mtx l).2.2 - (mtx l).1.1)) (puG (mtx l)) (puP (mtx l)) (puD (mtx l)) (puQ (mtx l)) (okX (puD (mtx l)) (pqP l)) := by
  have hp := pos_mtx h0 (fun t ht => (hl t ht).1)
  have hg := pu_gpos hp
  obtain ⟨d1, d2, d3⟩ := pu_dvd (mtx l)
  obtain ⟨a1, a2, a3⟩ := pu_eqs (mtx l)
  have c1 := part_le a1 hg
  have c2 := part_le a2 hg
  have c3 := part_le a3 hg
  have hk : okX (puD (mtx l)) (pqP l) = true → _ := fun hk => pu_small h0 (fun t ht => (hl t ht).1) hk
  have hb : (mtx l).1.1 ≤ 1000000000 := by
    have := fitN_le (l := l) (k := l.length) hf (List.length_pos_iff.2 h0) (Nat.le_refl _)
    rw [List.take_of_length_le (Nat.le_refl _)] at this
    unfold fitE at this
    rw [Bool.and_eq_true, inB_iff, inB_iff] at this
    exact this.1.2
  obtain ⟨q1, q2, q3, q4, q5, q6, q7, _⟩ := hp
  have hA : 1 ≤ puA (mtx l) := by
    rcases Int.lt_or_le (puA (mtx l)) 1 with e | e
    · have := Int.mul_le_mul_of_nonneg_left (show puA (mtx l) ≤ 0 by omega) (show (0 : Int) ≤ (puG (mtx l) : Nat) by omega)
      omega
    · exact e
  have hg1 : Int.gcd (mtx l).1.2 ((mtx l).2.2 - (mtx l).1.1) ≤ 1000000000 := by
    have := Nat.le_of_dvd (by omega) (Int.natAbs_dvd_natAbs.2 (Int.gcd_dvd_left (mtx l).1.2 ((mtx l).2.2 - (mtx l).1.1)))
    rw [Int.natAbs_natCast] at this
    omega
  have hg2 : puG (mtx l) ≤ 1000000000 := by
    have := Nat.le_of_dvd (by omega) (Int.natAbs_dvd_natAbs.2 d1)
    rw [Int.natAbs_natCast] at this
    omega
  refine ⟨by omega, by omega, by omega, by omega, hg1, by omega, rfl, ?_, tdiv_ex d1, tdiv_ex d2, tdiv_ex d3, by omega, by omega, by omega, ?_, rfl, ?_, ?_⟩
  · unfold puG
    rw [Int.gcd_neg]
    rfl
  · intro h
    obtain ⟨k1, k2, k3, k4⟩ := hk h
    omega
  · intro h
    have h2 : puB (mtx l) % 2 = 0 := by have := Int.dvd_of_tmod_eq_zero h; omega
    unfold puP puD puQ
    rw [if_pos h2, if_pos h2, if_pos h2]
    obtain ⟨k, hk⟩ : ∃ k, puB (mtx l) = 2 * k := ⟨puB (mtx l) / 2, by omega⟩
    rw [Int.mul_assoc]
    refine ⟨tdiv_ex (by omega), tdiv_ex ?_, Int.mul_tdiv_cancel_left _ (by decide)⟩
    rw [hk]
    exact ⟨k * k - puA (mtx l) * puC (mtx l), by grind⟩
  · intro h
    have h2 : ¬ puB (mtx l) % 2 = 0 := fun e => h (Int.tmod_eq_zero_of_dvd (by omega))
    unfold puP puD puQ
    rw [if_neg h2, if_neg h2, if_neg h2, Int.mul_assoc]
    exact ⟨rfl, rfl, rfl⟩
set_option maxHeartbeats 4000000 in
set_option maxRecDepth 100000 in
theorem l08Pure_any (v : Value) (n : Nat) (ls : List Int) (w : World) (hv : Rd w 1 v n (ints ls)) (hn : n ≤ 4194304) (h0 : ls ≠ []) (hl : ∀ t ∈ ls, 1 ≤ t ∧ t ≤ 1000000000) : Calls Try.prog 76 #[v] w (PuP w ls) := by
  have kM := l08Matrix_any v n ls _ (hv.alloc (.cells #[.int .i64 0, .int .i64 0, .int .i64 0] 50)) hn (fun t ht => by have := hl t ht; omega)
  unfold MxP at kM
  unfold PuP
  cases hf : fitL ls
  · rw [hf] at kM
    clear hv hl h0 hf
    go_enter Try.func76, Try.ntmps76
    go_wp2_with fail
    apply Calls.mono
    · with_reducible exact kM
    rintro _ w1 ⟨p, q, pp, qq, rfl, -, hb_w1⟩
    obtain ⟨hc_w1, hf_w1, hs_w1⟩ := bcell hb_w1
    try simp at hs_w1
    have hz_w1_w0 : w.heap.size < w1.heap.size := by omega
    have hy_w1_w0 : w.heap.size ≤ w1.heap.size := by omega
    have hx_w1_w0 : ∀ n : Nat, w.heap.size < w1.heap.size + n := by intro n; omega
    have hv_w1_w0 : ∀ n : Nat, w.heap.size ≤ w1.heap.size + n := by intro n; omega
    go_wp2
    refine bodyPost_ret (by simp [results, Try.results76, go_sem, *]; try rfl) rfl ?_
    refine ⟨0, 0, 0, rfl, fun h => by simp at h, ?_⟩
    repeat' (first | (with_reducible exact Below.refl _ _) | (with_reducible assumption) | (with_reducible refine Below.alloc ?_ ?_ _) | (with_reducible refine Below.drew ?_) | (with_reducible refine bdrewN ?_ _) | (with_reducible refine Below.setCell ?_ ?_ _) | (with_reducible refine bthen ?_ (by assumption) ?_) | go_size)
  · rw [hf] at kM
    have F := pu_fact h0 hl hf
    obtain ⟨r, hr⟩ : ∃ r, okX (puD (mtx ls)) (pqP ls) = r := ⟨_, rfl⟩
    rw [hr] at F
    rw [hr]
    simp only [Bool.true_and]
    generalize puA (mtx ls) = A at *
    generalize puB (mtx ls) = B at *
    generalize puC (mtx ls) = C at *
    generalize puG (mtx ls) = G at *
    generalize puP (mtx ls) = P at *
    generalize puD (mtx ls) = D at *
    generalize puQ (mtx ls) = Q at *
    generalize (mtx ls).1.1 = mp at *
    generalize (mtx ls).1.2 = mq at *
    generalize (mtx ls).2.1 = mpp at *
    generalize (mtx ls).2.2 = mqq at *
    generalize Int.gcd mq (mqq - mp) = g1 at *
    obtain ⟨⟨b1, b2⟩, ⟨b3, b4⟩, ⟨b5, b6⟩, ⟨b7, b8⟩, gb1, ⟨gb2, gb3⟩, hg1, hG, eA, eB, eC, ⟨c1, c2⟩, c3, c4, hout, hrr, hp0, hp1⟩ := F
    have kS1 := fun w => l02Size_any (mqq - mp) (by omega) (by omega) w
    have kG1 := fun w => l02Gcd_any mq.natAbs (mqq - mp).natAbs (by omega) (by omega) w
    rw [hg1] at kG1
    have kS2 := fun w => l02Size_any (-mpp) (by omega) (by omega) w
    have kG2 := fun w => l02Gcd_any g1 (-mpp).natAbs (by omega) (by omega) w
    rw [Int.natAbs_neg] at kS2 kG2
    rw [hG] at kG2
    have hqa : ((mq.natAbs : Nat) : Int) = mq := by omega
    rw [hqa] at kG1
    have kS3 := fun w => l02Size_any B (by omega) (by omega) w
    have kS4 := fun w => l02Size_any C (by omega) (by omega) w
    have hG0 : (G : Int) ≠ 0 := by omega
    clear hv hl h0 hf hg1 hG hqa hr
    have HO := Lib.hid hout
    have HRR := Lib.hid hrr
    have HP0 := Lib.hid hp0
    have HP1 := Lib.hid hp1
    clear hout hrr hp0 hp1
    go_enter Try.func76, Try.ntmps76
    go_wp2_with fail
    apply Calls.mono
    · with_reducible exact kM
    rintro _ w1 ⟨p, q, pp, qq, rfl, hval, hb_w1⟩
    obtain ⟨rfl, rfl, rfl, rfl⟩ := hval trivial
    clear hval
    obtain ⟨hc_w1, hf_w1, hs_w1⟩ := bcell hb_w1
    try simp at hs_w1
    have hz_w1_w0 : w.heap.size < w1.heap.size := by omega
    have hy_w1_w0 : w.heap.size ≤ w1.heap.size := by omega
    have hx_w1_w0 : ∀ n : Nat, w.heap.size < w1.heap.size + n := by intro n; omega
    have hv_w1_w0 : ∀ n : Nat, w.heap.size ≤ w1.heap.size + n := by intro n; omega
    have bel1 : Below w.heap.size w w1 := by repeat' (first | (with_reducible exact Below.refl _ _) | (with_reducible assumption) | (with_reducible refine Below.alloc ?_ ?_ _) | (with_reducible refine Below.drew ?_) | (with_reducible refine bdrewN ?_ _) | (with_reducible refine Below.setCell ?_ ?_ _) | (with_reducible refine bthen ?_ (by assumption) ?_) | go_size)
    have HX := Lib.hid bel1
    go_wp2_with fail
    apply Calls.mono
    · with_reducible exact kS1 _
    rintro _ w2 ⟨rfl, hb_w2⟩
    obtain ⟨hc_w2, hf_w2, hs_w2⟩ := bcell hb_w2
    try simp at hs_w2
    have hz_w2_w0 : w.heap.size < w2.heap.size := by omega
    have hy_w2_w0 : w.heap.size ≤ w2.heap.size := by omega
    have hx_w2_w0 : ∀ n : Nat, w.heap.size < w2.heap.size + n := by intro n; omega
    have hv_w2_w0 : ∀ n : Nat, w.heap.size ≤ w2.heap.size + n := by intro n; omega
    have hz_w2_w10 : w1.heap.size < w2.heap.size := by omega
    have hy_w2_w10 : w1.heap.size ≤ w2.heap.size := by omega
    have hx_w2_w10 : ∀ n : Nat, w1.heap.size < w2.heap.size + n := by intro n; omega
    have hv_w2_w10 : ∀ n : Nat, w1.heap.size ≤ w2.heap.size + n := by intro n; omega
    go_wp2_with fail
    apply Calls.mono
    · with_reducible exact kG1 _
    rintro _ w3 ⟨rfl, hb_w3⟩
    obtain ⟨hc_w3, hf_w3, hs_w3⟩ := bcell hb_w3
    try simp at hs_w3
    have hz_w3_w0 : w.heap.size < w3.heap.size := by omega
    have hy_w3_w0 : w.heap.size ≤ w3.heap.size := by omega
    have hx_w3_w0 : ∀ n : Nat, w.heap.size < w3.heap.size + n := by intro n; omega
    have hv_w3_w0 : ∀ n : Nat, w.heap.size ≤ w3.heap.size + n := by intro n; omega
    have hz_w3_w10 : w1.heap.size < w3.heap.size := by omega
    have hy_w3_w10 : w1.heap.size ≤ w3.heap.size := by omega
    have hx_w3_w10 : ∀ n : Nat, w1.heap.size < w3.heap.size + n := by intro n; omega
    have hv_w3_w10 : ∀ n : Nat, w1.heap.size ≤ w3.heap.size + n := by intro n; omega
    go_wp2_with fail
    apply Calls.mono
    · with_reducible exact kS2 _
    rintro _ w4 ⟨rfl, hb_w4⟩
    obtain ⟨hc_w4, hf_w4, hs_w4⟩ := bcell hb_w4
    try simp at hs_w4
    have hz_w4_w0 : w.heap.size < w4.heap.size := by omega
    have hy_w4_w0 : w.heap.size ≤ w4.heap.size := by omega
    have hx_w4_w0 : ∀ n : Nat, w.heap.size < w4.heap.size + n := by intro n; omega
    have hv_w4_w0 : ∀ n : Nat, w.heap.size ≤ w4.heap.size + n := by intro n; omega
    have hz_w4_w10 : w1.heap.size < w4.heap.size := by omega
    have hy_w4_w10 : w1.heap.size ≤ w4.heap.size := by omega
    have hx_w4_w10 : ∀ n : Nat, w1.heap.size < w4.heap.size + n := by intro n; omega
    have hv_w4_w10 : ∀ n : Nat, w1.heap.size ≤ w4.heap.size + n := by intro n; omega
    go_wp2_with fail
    apply Calls.mono
    · with_reducible exact kG2 _
    rintro _ w5 ⟨rfl, hb_w5⟩
    obtain ⟨hc_w5, hf_w5, hs_w5⟩ := bcell hb_w5
    try simp at hs_w5
    have hz_w5_w0 : w.heap.size < w5.heap.size := by omega
    have hy_w5_w0 : w.heap.size ≤ w5.heap.size := by omega
    have hx_w5_w0 : ∀ n : Nat, w.heap.size < w5.heap.size + n := by intro n; omega
    have hv_w5_w0 : ∀ n : Nat, w.heap.size ≤ w5.heap.size + n := by intro n; omega
    have hz_w5_w10 : w1.heap.size < w5.heap.size := by omega
    have hy_w5_w10 : w1.heap.size ≤ w5.heap.size := by omega
    have hx_w5_w10 : ∀ n : Nat, w1.heap.size < w5.heap.size + n := by intro n; omega
    have hv_w5_w10 : ∀ n : Nat, w1.heap.size ≤ w5.heap.size + n := by intro n; omega
    by_cases g1 : 500000 < A
    · obtain rfl : false = r := by
        cases r
        · rfl
        · have := (HO.out rfl).1; omega
      clear HO HRR HP0 HP1
      go_wp2
      refine bodyPost_ret (by simp [results, Try.results76, go_sem, *]; try rfl) rfl ?_
      refine ⟨0, 0, 0, rfl, fun h => by simp at h, ?_⟩
      repeat' (first | (with_reducible exact Below.refl _ _) | (with_reducible assumption) | (with_reducible refine Below.alloc ?_ ?_ _) | (with_reducible refine Below.drew ?_) | (with_reducible refine bdrewN ?_ _) | (with_reducible refine Below.setCell ?_ ?_ _) | (with_reducible refine bthen ?_ (by assumption) ?_) | go_size)
    · go_wp2_with fail
      apply Calls.mono
      · with_reducible exact kS3 _
      rintro _ w6 ⟨rfl, hb_w6⟩
      obtain ⟨hc_w6, hf_w6, hs_w6⟩ := bcell hb_w6
      try simp at hs_w6
      have hz_w6_w0 : w.heap.size < w6.heap.size := by omega
      have hy_w6_w0 : w.heap.size ≤ w6.heap.size := by omega
      have hx_w6_w0 : ∀ n : Nat, w.heap.size < w6.heap.size + n := by intro n; omega
      have hv_w6_w0 : ∀ n : Nat, w.heap.size ≤ w6.heap.size + n := by intro n; omega
      have hz_w6_w10 : w1.heap.size < w6.heap.size := by omega
      have hy_w6_w10 : w1.heap.size ≤ w6.heap.size := by omega
      have hx_w6_w10 : ∀ n : Nat, w1.heap.size < w6.heap.size + n := by intro n; omega
      have hv_w6_w10 : ∀ n : Nat, w1.heap.size ≤ w6.heap.size + n := by intro n; omega
      by_cases g2 : 1000000 < B.natAbs
      · obtain rfl : false = r := by
          cases r
          · rfl
          · have := (HO.out rfl).2.1; omega
        clear HO HRR HP0 HP1
        have g2' : (1000000 : Int) < (B.natAbs : Int) := by omega
        go_wp2
        refine bodyPost_ret (by simp [results, Try.results76, go_sem, *]; try rfl) rfl ?_
        refine ⟨0, 0, 0, rfl, fun h => by simp at h, ?_⟩
        repeat' (first | (with_reducible exact Below.refl _ _) | (with_reducible assumption) | (with_reducible refine Below.alloc ?_ ?_ _) | (with_reducible refine Below.drew ?_) | (with_reducible refine bdrewN ?_ _) | (with_reducible refine Below.setCell ?_ ?_ _) | (with_reducible refine bthen ?_ (by assumption) ?_) | go_size)
      · have g2' : ¬ (1000000 : Int) < (B.natAbs : Int) := by omega
        go_wp2_with fail
        apply Calls.mono
        · with_reducible exact kS4 _
        rintro _ w7 ⟨rfl, hb_w7⟩
        obtain ⟨hc_w7, hf_w7, hs_w7⟩ := bcell hb_w7
        try simp at hs_w7
        have hz_w7_w0 : w.heap.size < w7.heap.size := by omega
        have hy_w7_w0 : w.heap.size ≤ w7.heap.size := by omega
        have hx_w7_w0 : ∀ n : Nat, w.heap.size < w7.heap.size + n := by intro n; omega
        have hv_w7_w0 : ∀ n : Nat, w.heap.size ≤ w7.heap.size + n := by intro n; omega
        have hz_w7_w10 : w1.heap.size < w7.heap.size := by omega
        have hy_w7_w10 : w1.heap.size ≤ w7.heap.size := by omega
        have hx_w7_w10 : ∀ n : Nat, w1.heap.size < w7.heap.size + n := by intro n; omega
        have hv_w7_w10 : ∀ n : Nat, w1.heap.size ≤ w7.heap.size + n := by intro n; omega
        by_cases g3 : 1000000 < C.natAbs
        · obtain rfl : false = r := by
            cases r
            · rfl
            · have := (HO.out rfl).2.2; omega
          clear HO HRR HP0 HP1
          have g3' : (1000000 : Int) < (C.natAbs : Int) := by omega
          go_wp2
          refine bodyPost_ret (by simp [results, Try.results76, go_sem, *]; try rfl) rfl ?_
          refine ⟨0, 0, 0, rfl, fun h => by simp at h, ?_⟩
          repeat' (first | (with_reducible exact Below.refl _ _) | (with_reducible assumption) | (with_reducible refine Below.alloc ?_ ?_ _) | (with_reducible refine Below.drew ?_) | (with_reducible refine bdrewN ?_ _) | (with_reducible refine Below.setCell ?_ ?_ _) | (with_reducible refine bthen ?_ (by assumption) ?_) | go_size)
        · have g3' : ¬ (1000000 : Int) < (C.natAbs : Int) := by omega
          obtain ⟨m1, m2⟩ := mulb (a := B) (b := B) (by omega) (by omega) (by omega) (by omega)
          have m3 : B.natAbs * B.natAbs ≤ 1000000 * 1000000 := Nat.mul_le_mul (by omega) (by omega)
          have m4 := Int.natAbs_mul B B
          have m5 : A.natAbs * C.natAbs ≤ 500000 * 1000000 := Nat.mul_le_mul (by omega) (by omega)
          have m6 := Int.natAbs_mul A C
          have n1 : 0 ≤ B * B ∧ B * B ≤ 1000000000000 := by
            refine ⟨?_, by omega⟩
            have := Int.natAbs_mul_self (a := B)
            omega
          have n2 : -500000000000 ≤ A * C ∧ A * C ≤ 500000000000 := by omega
          have e1 : B * B - 4 * (A * C) - -B * -B = 2 * A * (-2 * C) := by grind
          have hf : ((B * B - 4 * (A * C) - -B * -B).tdiv (2 * A)).tmod 2 = 0 := by
            rw [e1, Int.mul_tdiv_cancel_left _ (by omega)]
            exact Int.tmod_eq_zero_of_dvd ⟨-C, by omega⟩
          have kP := fun w => l08Plain_raw (-B) (B * B - 4 * (A * C)) (2 * A) P D Q (by omega) (by omega) (by omega) (by omega) (by omega) (by omega) (by omega) (Int.tmod_eq_zero_of_dvd ⟨A, rfl⟩) hf HP0.out HP1.out r HRR.out w
          have e4 : 4 * A * C = 4 * (A * C) := Int.mul_assoc _ _ _
          clear HO HRR HP0 HP1 m3 m4 m5 m6 e1 hf
          go_wp2_with fail
          apply Calls.mono
          · with_reducible exact kP _
          rintro _ w8 ⟨rfl, hb_w8⟩
          obtain ⟨hc_w8, hf_w8, hs_w8⟩ := bcell hb_w8
          try simp at hs_w8
          have hz_w8_w0 : w.heap.size < w8.heap.size := by omega
          have hy_w8_w0 : w.heap.size ≤ w8.heap.size := by omega
          have hx_w8_w0 : ∀ n : Nat, w.heap.size < w8.heap.size + n := by intro n; omega
          have hv_w8_w0 : ∀ n : Nat, w.heap.size ≤ w8.heap.size + n := by intro n; omega
          have hz_w8_w10 : w1.heap.size < w8.heap.size := by omega
          have hy_w8_w10 : w1.heap.size ≤ w8.heap.size := by omega
          have hx_w8_w10 : ∀ n : Nat, w1.heap.size < w8.heap.size + n := by intro n; omega
          have hv_w8_w10 : ∀ n : Nat, w1.heap.size ≤ w8.heap.size + n := by intro n; omega
          go_wp2
          refine bodyPost_ret (by simp [results, Try.results76, go_sem, *]; try rfl) rfl ?_
          refine ⟨P, D, Q, by simp, fun h => ⟨rfl, rfl, rfl⟩, ?_⟩
          repeat' (first | (with_reducible exact Below.refl _ _) | (with_reducible assumption) | (with_reducible refine Below.alloc ?_ ?_ _) | (with_reducible refine Below.drew ?_) | (with_reducible refine bdrewN ?_ _) | (with_reducible refine Below.setCell ?_ ?_ _) | (with_reducible refine bthen ?_ (by assumption) ?_) | go_size)
end Go.Proofs.Ytkjakgemjhbfoaa
