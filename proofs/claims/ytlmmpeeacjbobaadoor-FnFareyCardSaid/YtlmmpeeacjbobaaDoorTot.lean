/-
  The totient function of both packages: each returns the number that the same plain function gives; the sums of totients.
-/
import Derived.Test.YtlmmpeeacjbobaaDoorBase
namespace Go.Proofs.YtlmmpeeacjbobaaDoor
open Go.RowKit

/-- n without the divisor p. -/
def strip : Nat → Nat → Nat → Nat
  | 0, n, _ => n
  | k + 1, n, p => if n % p = 0 then strip k (n / p) p else n
theorem strip_succ (k n p : Nat) : strip (k + 1) n p = if n % p = 0 then strip k (n / p) p else n := rfl
theorem strip_bd (k n p : Nat) (hn : 1 ≤ n) : 1 ≤ strip k n p ∧ strip k n p ≤ n := by
  induction k generalizing n with
  | zero => exact ⟨hn, Nat.le_refl _⟩
  | succ k ih =>
    unfold strip
    split
    · rename_i h
      have h1 : 1 ≤ n / p := by
        rcases Nat.eq_zero_or_pos (n / p) with h0 | h0
        · have := Nat.div_add_mod n p; rw [h0, h] at this; omega
        · exact h0
      have h2 := ih (n / p) h1
      have h3 := Nat.div_le_self n p
      omega
    · omega
theorem strip_no (k n p : Nat) (h : n % p ≠ 0) : strip k n p = n := by
  cases k with
  | zero => rfl
  | succ k => unfold strip; rw [if_neg h]

/-- The loop of the totient: divisor p, what is left of the number, the count. -/
def totF : Nat → Nat → Nat → Nat → Nat
  | 0, _, n, out => if 1 < n then out - out / n else out
  | k + 1, p, n, out =>
    if p * p ≤ n then
      if n % p = 0 then totF k (p + 1) (strip n n p) (out - out / p) else totF k (p + 1) n out
    else if 1 < n then out - out / n else out
def tot (n : Nat) : Nat := totF n 2 n n
theorem totF_le (k : Nat) : ∀ p n out, totF k p n out ≤ out := by
  induction k with
  | zero => intro p n out; unfold totF; split; exact Nat.sub_le _ _; exact Nat.le_refl _
  | succ k ih =>
    intro p n out
    unfold totF
    split
    · split
      · exact Nat.le_trans (ih _ _ _) (Nat.sub_le _ _)
      · exact ih _ _ _
    · split
      · exact Nat.sub_le _ _
      · exact Nat.le_refl _
theorem cast_sub_div (out m : Nat) : ((out - out / m : Nat) : Int) = (out : Int) - (out : Int) / (m : Int) ∧ 0 ≤ (out : Int) / (m : Int) ∧ (out : Int) / (m : Int) ≤ (out : Int) := by
  have h := Nat.div_le_self out m
  rw [← Int.natCast_ediv]
  generalize out / m = q at *
  omega
theorem mod_bool (m p : Nat) : (m % p = 0 → ((m : Int) % (p : Int) != 0) = false ∧ ((m : Int) % (p : Int) == 0) = true) ∧ (m % p ≠ 0 → ((m : Int) % (p : Int) != 0) = true ∧ ((m : Int) % (p : Int) == 0) = false) := by
  rw [← Int.natCast_emod]
  constructor
  · intro h; rw [h]; exact ⟨rfl, rfl⟩
  · intro h
    have : ((m % p : Nat) : Int) ≠ 0 := by omega
    exact ⟨bne_iff_ne.2 this, beq_eq_false_iff_ne.2 this⟩
theorem tot_le (n : Nat) : tot n ≤ n := totF_le _ _ _ _

def StripR (w : World) (S p : Nat) (k : Nat) (x : Value) (wr : World) : Prop :=
  ∃ m : Nat, 1 ≤ m ∧ m ≤ k ∧ m ≤ 1000000 ∧ strip k m p = S ∧ x = .int .i64 m ∧ Below w.heap.size w wr
def TotR (w : World) (R : Nat) (k : Nat) (x y z : Value) (wr : World) : Prop :=
  ∃ p n out : Nat, 2 ≤ p ∧ p ≤ 1000002 ∧ 1 ≤ n ∧ n ≤ 1000000 ∧ out ≤ 1000000 ∧ n < p + k ∧ p + k ≤ 1000002 ∧ totF k p n out = R ∧ x = .int .i64 n ∧ y = .int .i64 out ∧ z = .int .i64 p ∧ Below w.heap.size w wr

set_option maxHeartbeats 2000000 in
theorem totientI_any (n : Nat) (h1 : 1 ≤ n) (h2 : n ≤ 1000000) (r : Int) (hr : ((tot n : Nat) : Int) = r) (w : World) : Calls Tryd.prog 57 #[.int .i64 n] w (Ret w (.int .i64 r)) := by
  have HRR := Lib.hid hr
  clear hr
  go_enter Tryd.func57, Tryd.ntmps57
  go_wp2_with fail
  go_loopg [0, 3, 4] n (TotR w (tot n))
  case atStart => exact ⟨2, n, n, by omega, by omega, h1, h2, h2, by omega, by omega, rfl, rfl, rfl, rfl, Below.refl _ _⟩
  case round =>
    obtain ⟨p, m, out, hp, hp2, hm, hm2, ho, hk, hk2, hR, rfl, rfl, rfl, hbw⟩ := hrel
    have HR := Lib.hid hR
    clear hR
    have hpp0 : ((p * p : Nat) : Int) = (p : Int) * (p : Int) := Int.natCast_mul p p
    have hpp1 : p * p ≤ 1000002 * 1000002 := Nat.mul_le_mul hp2 hp2
    have hpp2 : (p : Int) * (p : Int) ≤ 2000000000000 := by omega
    have hpp3 : (0 : Int) ≤ (p : Int) * (p : Int) := by omega
    have hp1 : (1 : Int) ≤ (p : Int) := by omega
    have hm1 : (1 : Int) ≤ (m : Int) := by omega
    by_cases hle : p * p ≤ m
    · have hle' : (p : Int) * (p : Int) ≤ (m : Int) := by omega
      have hgk : gk ≠ 0 := by
        have := Nat.le_mul_of_pos_left p (show 0 < p by omega)
        omega
      obtain ⟨k', rfl⟩ := Nat.exists_eq_succ_of_ne_zero hgk
      have hR2 := HR.out
      unfold totF at hR2
      rw [if_pos hle] at hR2
      clear HR hpp0 hpp1 hle
      obtain ⟨ed, eq1, eq2⟩ := cast_sub_div out p
      have HE := Lib.hid ed
      clear ed
      by_cases hd : m % p = 0
      · rw [if_pos hd] at hR2
        have HR := Lib.hid hR2
        obtain ⟨hd1, hd2⟩ := (mod_bool m p).1 hd
        obtain ⟨hs1, hs2⟩ := strip_bd m m p hm
        clear hR2 hd
        go_wp2_with fail
        go_loopg [0] m (StripR wr (strip m m p) p)
        case atStart => exact ⟨m, hm, Nat.le_refl _, hm2, rfl, rfl, Below.refl _ _⟩
        obtain ⟨wo, rfl⟩ : ∃ wo : World, wo = wr := ⟨_, rfl⟩
        obtain ⟨q, hq1, hq2, hq3, hS, rfl, hb2⟩ := hrel
        have hqi : (1 : Int) ≤ (q : Int) := by omega
        obtain ⟨k2, rfl⟩ := Nat.exists_eq_succ_of_ne_zero (show gk ≠ 0 by omega)
        rw [strip_succ] at hS
        by_cases hqd : q % p = 0
        · rw [if_pos hqd] at hS
          have HS := Lib.hid hS
          obtain ⟨hd3, hd4⟩ := (mod_bool q p).1 hqd
          have h1q : 1 ≤ q / p := by
            rcases Nat.eq_zero_or_pos (q / p) with h0 | h0
            · have := Nat.div_add_mod q p; rw [h0, hqd] at this; omega
            · exact h0
          have h2q : q / p < q := Nat.div_lt_self (by omega) (by omega)
          clear hS hqd
          go_wp2
          go_roundg k2
          case measure => omega
          case rel => exact ⟨q / p, h1q, by omega, by omega, HS.out, by go_num, hb2⟩
        · rw [if_neg hqd] at hS
          obtain ⟨hd3, hd4⟩ := (mod_bool q p).2 hqd
          rw [← hS] at hs1 hs2 HR
          clear hS hqd
          have ho2 : out - out / p ≤ 1000000 := Nat.le_trans (Nat.sub_le _ _) ho
          go_wp2
          go_roundg k'
          case measure => omega
          case rel => exact ⟨p + 1, q, out - out / p, by omega, by omega, hs1, by omega, ho2, by omega, by omega, HR.out, rfl, by rw [HE.out], by go_num, bthen hbw hb2 hbw.size⟩
      · rw [if_neg hd] at hR2
        have HR := Lib.hid hR2
        obtain ⟨hd1, hd2⟩ := (mod_bool m p).2 hd
        clear hR2 hd
        go_wp2
        go_roundg k'
        case measure => omega
        case rel => exact ⟨p + 1, m, out, by omega, by omega, hm, hm2, ho, by omega, by omega, HR.out, rfl, rfl, by go_num, hbw⟩
    · have hR2 := HR.out
      have hR3 : (if 1 < m then out - out / m else out) = tot n := by
        cases gk with
        | zero => unfold totF at hR2; exact hR2
        | succ k => unfold totF at hR2; rw [if_neg hle] at hR2; exact hR2
      have hle' : ¬ (p : Int) * (p : Int) ≤ (m : Int) := by omega
      clear HR hR2 hpp0 hpp1 hle
      by_cases hm1 : 1 < m
      · rw [if_pos hm1] at hR3
        obtain ⟨ed, eq1, eq2⟩ := cast_sub_div out m
        obtain rfl : (out : Int) - (out : Int) / (m : Int) = r := by rw [← HRR.out, ← hR3, ed]
        clear hR3 ed HRR
        go_wp2
        go_ret
        refine ⟨by first | rfl | (simp), ?_⟩
        repeat' (first | (with_reducible exact Below.refl _ _) | (with_reducible assumption) | (with_reducible refine Below.alloc ?_ ?_ _) | (with_reducible refine Below.drew ?_) | (with_reducible refine bdrewN ?_ _) | (with_reducible refine Below.setCell ?_ ?_ _) | (with_reducible refine bthen ?_ (by assumption) ?_) | go_size)
      · rw [if_neg hm1] at hR3
        obtain rfl : (out : Int) = r := by rw [← HRR.out, ← hR3]
        clear hR3 HRR
        go_wp2
        go_ret
        refine ⟨by first | rfl | (simp), ?_⟩
        repeat' (first | (with_reducible exact Below.refl _ _) | (with_reducible assumption) | (with_reducible refine Below.alloc ?_ ?_ _) | (with_reducible refine Below.drew ?_) | (with_reducible refine bdrewN ?_ _) | (with_reducible refine Below.setCell ?_ ?_ _) | (with_reducible refine bthen ?_ (by assumption) ?_) | go_size)
set_option maxHeartbeats 2000000 in
theorem totientS_any (n : Nat) (h1 : 1 ≤ n) (h2 : n ≤ 1000000) (r : Int) (hr : ((tot n : Nat) : Int) = r) (w : World) : Calls Tryd.prog 58 #[.int .i64 n] w (Ret w (.int .i64 r)) := by
  have HRR := Lib.hid hr
  clear hr
  go_enter Tryd.func58, Tryd.ntmps58
  go_wp2_with fail
  go_loopg [4, 3, 5] n (TotR w (tot n))
  case atStart => exact ⟨2, n, n, by omega, by omega, h1, h2, h2, by omega, by omega, rfl, rfl, rfl, rfl, Below.refl _ _⟩
  case round =>
    obtain ⟨p, m, out, hp, hp2, hm, hm2, ho, hk, hk2, hR, rfl, rfl, rfl, hbw⟩ := hrel
    have HR := Lib.hid hR
    clear hR
    have hpp0 : ((p * p : Nat) : Int) = (p : Int) * (p : Int) := Int.natCast_mul p p
    have hpp1 : p * p ≤ 1000002 * 1000002 := Nat.mul_le_mul hp2 hp2
    have hpp2 : (p : Int) * (p : Int) ≤ 2000000000000 := by omega
    have hpp3 : (0 : Int) ≤ (p : Int) * (p : Int) := by omega
    have hp1 : (1 : Int) ≤ (p : Int) := by omega
    have hm1 : (1 : Int) ≤ (m : Int) := by omega
    by_cases hle : p * p ≤ m
    · have hle' : (p : Int) * (p : Int) ≤ (m : Int) := by omega
      have hgk : gk ≠ 0 := by
        have := Nat.le_mul_of_pos_left p (show 0 < p by omega)
        omega
      obtain ⟨k', rfl⟩ := Nat.exists_eq_succ_of_ne_zero hgk
      have hR2 := HR.out
      unfold totF at hR2
      rw [if_pos hle] at hR2
      clear HR hpp0 hpp1 hle
      obtain ⟨ed, eq1, eq2⟩ := cast_sub_div out p
      have HE := Lib.hid ed
      clear ed
      by_cases hd : m % p = 0
      · rw [if_pos hd] at hR2
        have HR := Lib.hid hR2
        obtain ⟨hd1, hd2⟩ := (mod_bool m p).1 hd
        obtain ⟨hs1, hs2⟩ := strip_bd m m p hm
        clear hR2 hd
        go_wp2_with fail
        go_loopg [4] m (StripR wr (strip m m p) p)
        case atStart => exact ⟨m, hm, Nat.le_refl _, hm2, rfl, rfl, Below.refl _ _⟩
        obtain ⟨wo, rfl⟩ : ∃ wo : World, wo = wr := ⟨_, rfl⟩
        obtain ⟨q, hq1, hq2, hq3, hS, rfl, hb2⟩ := hrel
        have hqi : (1 : Int) ≤ (q : Int) := by omega
        obtain ⟨k2, rfl⟩ := Nat.exists_eq_succ_of_ne_zero (show gk ≠ 0 by omega)
        rw [strip_succ] at hS
        by_cases hqd : q % p = 0
        · rw [if_pos hqd] at hS
          have HS := Lib.hid hS
          obtain ⟨hd3, hd4⟩ := (mod_bool q p).1 hqd
          have h1q : 1 ≤ q / p := by
            rcases Nat.eq_zero_or_pos (q / p) with h0 | h0
            · have := Nat.div_add_mod q p; rw [h0, hqd] at this; omega
            · exact h0
          have h2q : q / p < q := Nat.div_lt_self (by omega) (by omega)
          clear hS hqd
          go_wp2
          go_roundg k2
          case measure => omega
          case rel => exact ⟨q / p, h1q, by omega, by omega, HS.out, by go_num, hb2⟩
        · rw [if_neg hqd] at hS
          obtain ⟨hd3, hd4⟩ := (mod_bool q p).2 hqd
          rw [← hS] at hs1 hs2 HR
          clear hS hqd
          have ho2 : out - out / p ≤ 1000000 := Nat.le_trans (Nat.sub_le _ _) ho
          go_wp2
          go_roundg k'
          case measure => omega
          case rel => exact ⟨p + 1, q, out - out / p, by omega, by omega, hs1, by omega, ho2, by omega, by omega, HR.out, rfl, by rw [HE.out], by go_num, bthen hbw hb2 hbw.size⟩
      · rw [if_neg hd] at hR2
        have HR := Lib.hid hR2
        obtain ⟨hd1, hd2⟩ := (mod_bool m p).2 hd
        have hno := strip_no m m p hd
        clear hR2 hd
        go_wp2_with fail
        go_loopg [4] m (StripR wr m p)
        case atStart => exact ⟨m, hm, Nat.le_refl _, hm2, hno, rfl, Below.refl _ _⟩
        obtain ⟨wo, rfl⟩ : ∃ wo : World, wo = wr := ⟨_, rfl⟩
        obtain ⟨q, hq1, hq2, hq3, hS, rfl, hb2⟩ := hrel
        have hqi : (1 : Int) ≤ (q : Int) := by omega
        obtain ⟨k2, rfl⟩ := Nat.exists_eq_succ_of_ne_zero (show gk ≠ 0 by omega)
        rw [strip_succ] at hS
        by_cases hqd : q % p = 0
        · rw [if_pos hqd] at hS
          have HS := Lib.hid hS
          obtain ⟨hd3, hd4⟩ := (mod_bool q p).1 hqd
          have h1q : 1 ≤ q / p := by
            rcases Nat.eq_zero_or_pos (q / p) with h0 | h0
            · have := Nat.div_add_mod q p; rw [h0, hqd] at this; omega
            · exact h0
          have h2q : q / p < q := Nat.div_lt_self (by omega) (by omega)
          clear hS hqd
          go_wp2
          go_roundg k2
          case measure => omega
          case rel => exact ⟨q / p, h1q, by omega, by omega, HS.out, by go_num, hb2⟩
        · rw [if_neg hqd] at hS
          obtain ⟨hd3, hd4⟩ := (mod_bool q p).2 hqd
          subst hS
          clear hqd
          go_wp2
          go_roundg k'
          case measure => omega
          case rel => exact ⟨p + 1, q, out, by omega, by omega, hm, hm2, ho, by omega, by omega, HR.out, rfl, rfl, by go_num, bthen hbw hb2 hbw.size⟩
    · have hR2 := HR.out
      have hR3 : (if 1 < m then out - out / m else out) = tot n := by
        cases gk with
        | zero => unfold totF at hR2; exact hR2
        | succ k => unfold totF at hR2; rw [if_neg hle] at hR2; exact hR2
      have hle' : ¬ (p : Int) * (p : Int) ≤ (m : Int) := by omega
      clear HR hR2 hpp0 hpp1 hle
      by_cases hm1 : 1 < m
      · rw [if_pos hm1] at hR3
        obtain ⟨ed, eq1, eq2⟩ := cast_sub_div out m
        obtain rfl : (out : Int) - (out : Int) / (m : Int) = r := by rw [← HRR.out, ← hR3, ed]
        clear hR3 ed HRR
        go_wp2
        go_ret
        refine ⟨by first | rfl | (simp), ?_⟩
        repeat' (first | (with_reducible exact Below.refl _ _) | (with_reducible assumption) | (with_reducible refine Below.alloc ?_ ?_ _) | (with_reducible refine Below.drew ?_) | (with_reducible refine bdrewN ?_ _) | (with_reducible refine Below.setCell ?_ ?_ _) | (with_reducible refine bthen ?_ (by assumption) ?_) | go_size)
      · rw [if_neg hm1] at hR3
        obtain rfl : (out : Int) = r := by rw [← HRR.out, ← hR3]
        clear hR3 HRR
        go_wp2
        go_ret
        refine ⟨by first | rfl | (simp), ?_⟩
        repeat' (first | (with_reducible exact Below.refl _ _) | (with_reducible assumption) | (with_reducible refine Below.alloc ?_ ?_ _) | (with_reducible refine Below.drew ?_) | (with_reducible refine bdrewN ?_ _) | (with_reducible refine Below.setCell ?_ ?_ _) | (with_reducible refine bthen ?_ (by assumption) ?_) | go_size)
/-- One more than the sum of the totients up to n. -/
def cntF : Nat → Nat
  | 0 => 1
  | n + 1 => cntF n + tot (n + 1)
theorem cntF_le (n : Nat) : cntF n ≤ 1 + n * n := by
  induction n with
  | zero => simp [cntF]
  | succ n ih =>
    have h := tot_le (n + 1)
    unfold cntF
    have : (n + 1) * (n + 1) = n * n + 2 * n + 1 := by rw [Nat.add_mul, Nat.mul_add]; omega
    omega
def CntR (w : World) (N : Nat) (k : Nat) (x y : Value) (wr : World) : Prop :=
  ∃ n : Nat, n ≤ N ∧ N ≤ n + k ∧ x = .int .i64 (cntF n : Nat) ∧ y = .int .i64 ((n : Int) + 1) ∧ Below w.heap.size w wr
/-- What TotientOf and FareyCount return. -/
def totM (n : Int) : Int × Int := if inB n 1 1000000 then (((tot n.toNat : Nat) : Int), 0) else (0, 2)
def cntM (n : Int) : Int × Int := if inB n 1 1000 then (((cntF n.toNat : Nat) : Int), 0) else (0, 2)
theorem totientOfI_any (n : Int) (w : World) : Calls Tryd.prog 24 #[.int .i64 n] w (Ret w (.tuple #[.int .i64 (totM n).1, .int .i64 (totM n).2])) := by
  cases h1 : inB n 1 1000000
  · have e : totM n = (0, 2) := by simp [totM, h1]
    rw [e]; clear e
    have H1 := Lib.hid h1
    clear h1
    go_enter Tryd.func24, Tryd.ntmps24
    go_wp2_with fail
    apply Calls.mono
    · with_reducible exact within_any _ _ _ false H1.out _
    rintro _ w1 ⟨rfl, hb_w1⟩
    obtain ⟨hc_w1, hf_w1, hs_w1⟩ := bcell hb_w1
    try simp at hs_w1
    go_wp2
    go_ret2
    refine ⟨by first | rfl | (simp), ?_⟩
    repeat' (first | (with_reducible exact Below.refl _ _) | (with_reducible assumption) | (with_reducible refine Below.alloc ?_ ?_ _) | (with_reducible refine Below.drew ?_) | (with_reducible refine bdrewN ?_ _) | (with_reducible refine Below.setCell ?_ ?_ _) | (with_reducible refine bthen ?_ (by assumption) ?_) | go_size)
  · obtain ⟨b1, b2⟩ := inB_iff.1 h1
    obtain ⟨m, rfl⟩ := Int.eq_ofNat_of_zero_le (show 0 ≤ n by omega)
    have e : totM (m : Int) = (((tot m : Nat) : Int), 0) := by simp [totM, h1]
    rw [e]; clear e
    have H1 := Lib.hid h1
    clear h1
    go_enter Tryd.func24, Tryd.ntmps24
    go_wp2_with fail
    apply Calls.mono
    · with_reducible exact within_any _ _ _ true H1.out _
    rintro _ w1 ⟨rfl, hb_w1⟩
    obtain ⟨hc_w1, hf_w1, hs_w1⟩ := bcell hb_w1
    try simp at hs_w1
    go_wp2_with fail
    apply Calls.mono
    · with_reducible exact totientI_any _ (by omega) (by omega) _ rfl _
    rintro _ w2 ⟨rfl, hb_w2⟩
    obtain ⟨hc_w2, hf_w2, hs_w2⟩ := bcell hb_w2
    try simp at hs_w2
    go_wp2
    go_ret2
    refine ⟨by first | rfl | (simp), ?_⟩
    repeat' (first | (with_reducible exact Below.refl _ _) | (with_reducible assumption) | (with_reducible refine Below.alloc ?_ ?_ _) | (with_reducible refine Below.drew ?_) | (with_reducible refine bdrewN ?_ _) | (with_reducible refine Below.setCell ?_ ?_ _) | (with_reducible refine bthen ?_ (by assumption) ?_) | go_size)
theorem totientOfS_any (n : Int) (w : World) : Calls Tryd.prog 25 #[.int .i64 n] w (Ret w (.tuple #[.int .i64 (totM n).1, .int .i64 (totM n).2])) := by
  cases h1 : inB n 1 1000000
  · have e : totM n = (0, 2) := by simp [totM, h1]
    rw [e]; clear e
    have H1 := Lib.hid h1
    clear h1
    go_enter Tryd.func25, Tryd.ntmps25
    go_wp2_with fail
    apply Calls.mono
    · with_reducible exact l00In_any _ _ _ false H1.out _
    rintro _ w1 ⟨rfl, hb_w1⟩
    obtain ⟨hc_w1, hf_w1, hs_w1⟩ := bcell hb_w1
    try simp at hs_w1
    go_wp2
    go_ret2
    refine ⟨by first | rfl | (simp), ?_⟩
    repeat' (first | (with_reducible exact Below.refl _ _) | (with_reducible assumption) | (with_reducible refine Below.alloc ?_ ?_ _) | (with_reducible refine Below.drew ?_) | (with_reducible refine bdrewN ?_ _) | (with_reducible refine Below.setCell ?_ ?_ _) | (with_reducible refine bthen ?_ (by assumption) ?_) | go_size)
  · obtain ⟨b1, b2⟩ := inB_iff.1 h1
    obtain ⟨m, rfl⟩ := Int.eq_ofNat_of_zero_le (show 0 ≤ n by omega)
    have e : totM (m : Int) = (((tot m : Nat) : Int), 0) := by simp [totM, h1]
    rw [e]; clear e
    have H1 := Lib.hid h1
    clear h1
    go_enter Tryd.func25, Tryd.ntmps25
    go_wp2_with fail
    apply Calls.mono
    · with_reducible exact l00In_any _ _ _ true H1.out _
    rintro _ w1 ⟨rfl, hb_w1⟩
    obtain ⟨hc_w1, hf_w1, hs_w1⟩ := bcell hb_w1
    try simp at hs_w1
    go_wp2_with fail
    apply Calls.mono
    · with_reducible exact totientS_any _ (by omega) (by omega) _ rfl _
    rintro _ w2 ⟨rfl, hb_w2⟩
    obtain ⟨hc_w2, hf_w2, hs_w2⟩ := bcell hb_w2
    try simp at hs_w2
    go_wp2
    go_ret2
    refine ⟨by first | rfl | (simp), ?_⟩
    repeat' (first | (with_reducible exact Below.refl _ _) | (with_reducible assumption) | (with_reducible refine Below.alloc ?_ ?_ _) | (with_reducible refine Below.drew ?_) | (with_reducible refine bdrewN ?_ _) | (with_reducible refine Below.setCell ?_ ?_ _) | (with_reducible refine bthen ?_ (by assumption) ?_) | go_size)
set_option maxHeartbeats 1000000 in
theorem fareyCountI_any (n : Int) (w : World) : Calls Tryd.prog 21 #[.int .i64 n] w (Ret w (.tuple #[.int .i64 (cntM n).1, .int .i64 (cntM n).2])) := by
  cases h1 : inB n 1 1000
  · have e : cntM n = (0, 2) := by simp [cntM, h1]
    rw [e]; clear e
    have H1 := Lib.hid h1
    clear h1
    go_enter Tryd.func21, Tryd.ntmps21
    go_wp2_with fail
    apply Calls.mono
    · with_reducible exact within_any _ _ _ false H1.out _
    rintro _ w1 ⟨rfl, hb_w1⟩
    obtain ⟨hc_w1, hf_w1, hs_w1⟩ := bcell hb_w1
    try simp at hs_w1
    go_wp2
    go_ret2
    refine ⟨by first | rfl | (simp), ?_⟩
    repeat' (first | (with_reducible exact Below.refl _ _) | (with_reducible assumption) | (with_reducible refine Below.alloc ?_ ?_ _) | (with_reducible refine Below.drew ?_) | (with_reducible refine bdrewN ?_ _) | (with_reducible refine Below.setCell ?_ ?_ _) | (with_reducible refine bthen ?_ (by assumption) ?_) | go_size)
  · obtain ⟨b1, b2⟩ := inB_iff.1 h1
    obtain ⟨m, rfl⟩ := Int.eq_ofNat_of_zero_le (show 0 ≤ n by omega)
    have e : cntM (m : Int) = (((cntF m : Nat) : Int), 0) := by simp [cntM, h1]
    rw [e]; clear e
    have H1 := Lib.hid h1
    clear h1
    go_enter Tryd.func21, Tryd.ntmps21
    go_wp2_with fail
    apply Calls.mono
    · with_reducible exact within_any _ _ _ true H1.out _
    rintro _ w1 ⟨rfl, hb_w1⟩
    obtain ⟨hc_w1, hf_w1, hs_w1⟩ := bcell hb_w1
    try simp at hs_w1
    go_wp2_with fail
    go_loopg [4, 5] m (CntR w m)
    case atStart => exact ⟨0, by omega, by omega, rfl, rfl, hb_w1⟩
    case round =>
      obtain ⟨j, hj1, hj2, rfl, rfl, hbw⟩ := hrel
      by_cases hjm : j < m
      · have t1 := tot_le (j + 1)
        have c1 := cntF_le j
        have c2 : j * j ≤ 1000 * 1000 := Nat.mul_le_mul (by omega) (by omega)
        have hc : (j : Int) + 1 = ((j + 1 : Nat) : Int) := by omega
        have HC := Lib.hid hc
        have hjm2 : (j : Int) + 1 ≤ (m : Int) := by omega
        clear hc
        go_wp2_with fail
        apply Calls.mono
        · rw [HC.out]
          with_reducible exact totientI_any _ (by omega) (by omega) _ rfl _
        rintro _ w2 ⟨rfl, hb_w2⟩
        go_wp2
        go_roundg (gk - 1)
        case measure => omega
        case rel => exact ⟨j + 1, by omega, by omega, by rw [cntF]; go_num, by go_num, bthen hbw hb_w2 hbw.size⟩
      · obtain rfl : j = m := by omega
        go_wp2
        go_ret2
        refine ⟨by first | rfl | (simp), ?_⟩
        repeat' (first | (with_reducible exact Below.refl _ _) | (with_reducible assumption) | (with_reducible refine Below.alloc ?_ ?_ _) | (with_reducible refine Below.drew ?_) | (with_reducible refine bdrewN ?_ _) | (with_reducible refine Below.setCell ?_ ?_ _) | (with_reducible refine bthen ?_ (by assumption) ?_) | go_size)
set_option maxHeartbeats 1000000 in
theorem fareyCountS_any (n : Int) (w : World) : Calls Tryd.prog 22 #[.int .i64 n] w (Ret w (.tuple #[.int .i64 (cntM n).1, .int .i64 (cntM n).2])) := by
  cases h1 : inB n 1 1000
  · have e : cntM n = (0, 2) := by simp [cntM, h1]
    rw [e]; clear e
    have H1 := Lib.hid h1
    clear h1
    go_enter Tryd.func22, Tryd.ntmps22
    go_wp2_with fail
    apply Calls.mono
    · with_reducible exact l00In_any _ _ _ false H1.out _
    rintro _ w1 ⟨rfl, hb_w1⟩
    obtain ⟨hc_w1, hf_w1, hs_w1⟩ := bcell hb_w1
    try simp at hs_w1
    go_wp2
    go_ret2
    refine ⟨by first | rfl | (simp), ?_⟩
    repeat' (first | (with_reducible exact Below.refl _ _) | (with_reducible assumption) | (with_reducible refine Below.alloc ?_ ?_ _) | (with_reducible refine Below.drew ?_) | (with_reducible refine bdrewN ?_ _) | (with_reducible refine Below.setCell ?_ ?_ _) | (with_reducible refine bthen ?_ (by assumption) ?_) | go_size)
  · obtain ⟨b1, b2⟩ := inB_iff.1 h1
    obtain ⟨m, rfl⟩ := Int.eq_ofNat_of_zero_le (show 0 ≤ n by omega)
    have e : cntM (m : Int) = (((cntF m : Nat) : Int), 0) := by simp [cntM, h1]
    rw [e]; clear e
    have H1 := Lib.hid h1
    clear h1
    go_enter Tryd.func22, Tryd.ntmps22
    go_wp2_with fail
    apply Calls.mono
    · with_reducible exact l00In_any _ _ _ true H1.out _
    rintro _ w1 ⟨rfl, hb_w1⟩
    obtain ⟨hc_w1, hf_w1, hs_w1⟩ := bcell hb_w1
    try simp at hs_w1
    go_wp2_with fail
    go_loopg [4, 5] m (CntR w m)
    case atStart => exact ⟨0, by omega, by omega, rfl, rfl, hb_w1⟩
    case round =>
      obtain ⟨j, hj1, hj2, rfl, rfl, hbw⟩ := hrel
      by_cases hjm : j < m
      · have t1 := tot_le (j + 1)
        have c1 := cntF_le j
        have c2 : j * j ≤ 1000 * 1000 := Nat.mul_le_mul (by omega) (by omega)
        have hc : (j : Int) + 1 = ((j + 1 : Nat) : Int) := by omega
        have HC := Lib.hid hc
        have hjm2 : (j : Int) + 1 ≤ (m : Int) := by omega
        clear hc
        go_wp2_with fail
        apply Calls.mono
        · rw [HC.out]
          with_reducible exact totientS_any _ (by omega) (by omega) _ rfl _
        rintro _ w2 ⟨rfl, hb_w2⟩
        go_wp2
        go_roundg (gk - 1)
        case measure => omega
        case rel => exact ⟨j + 1, by omega, by omega, by rw [cntF]; go_num, by go_num, bthen hbw hb_w2 hbw.size⟩
      · obtain rfl : j = m := by omega
        go_wp2
        go_ret2
        refine ⟨by first | rfl | (simp), ?_⟩
        repeat' (first | (with_reducible exact Below.refl _ _) | (with_reducible assumption) | (with_reducible refine Below.alloc ?_ ?_ _) | (with_reducible refine Below.drew ?_) | (with_reducible refine bdrewN ?_ _) | (with_reducible refine Below.setCell ?_ ?_ _) | (with_reducible refine bthen ?_ (by assumption) ?_) | go_size)
end Go.Proofs.YtlmmpeeacjbobaaDoor
