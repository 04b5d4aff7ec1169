/-
  The start value of the root: a float's square root, cut to an integer, lies between 0 and 2^31.
-/
import Derived.Test.YtlmmpeeacjbobaaGreatDoorBase
import Derived.Laws.FloatArith
import Derived.Laws.Externs
namespace Go.Proofs.YtlmmpeeacjbobaaGreatDoor
open Ieee

theorem cut_bd (way : Toward) (neg : Bool) (n drop : Nat) : way.cut neg n drop ≤ n / 2 ^ (min drop (n.log2 + 2)) + 1 := by
  unfold Toward.cut
  simp only [Nat.one_shiftLeft]
  apply Nat.add_le_add_left
  exact Bool.toNat_le _
theorem cut_even0 (neg : Bool) (n : Nat) : Toward.even.cut neg n 0 = n := by
  unfold Toward.cut
  simp [Nat.mod_one]
theorem cut_zero (n drop : Nat) : Toward.zero.cut false n drop = n / 2 ^ (min drop (n.log2 + 2)) := by
  unfold Toward.cut
  simp only [Nat.one_shiftLeft]
  simp
theorem kept_bd (neg : Bool) (mag : Nat) (place last : Int) (hl : last = place + (mag.log2 : Int) - 52) :
    Toward.even.cut neg (mag <<< (place - last).toNat) (last - place).toNat ≤ 9007199254740992 := by
  have hlt : mag < 2 ^ (mag.log2 + 1) := Nat.lt_log2_self
  rcases Nat.lt_or_ge 52 mag.log2 with hc | hc
  · have e1 : (place - last).toNat = 0 := by omega
    have e2 : (last - place).toNat = mag.log2 - 52 := by omega
    rw [e1, e2, Nat.shiftLeft_zero]
    have h1 := cut_bd .even neg mag (mag.log2 - 52)
    have e3 : min (mag.log2 - 52) (mag.log2 + 2) = mag.log2 - 52 := by omega
    rw [e3] at h1
    have h2 : mag / 2 ^ (mag.log2 - 52) < 2 ^ 53 := by
      apply Nat.div_lt_of_lt_mul
      rw [← Nat.pow_add]
      have : mag.log2 - 52 + 53 = mag.log2 + 1 := by omega
      rw [this]; exact hlt
    have : (2:Nat) ^ 53 = 9007199254740992 := by decide
    omega
  · have e1 : (place - last).toNat = 52 - mag.log2 := by omega
    have e2 : (last - place).toNat = 0 := by omega
    rw [e1, e2, cut_even0, Nat.shiftLeft_eq]
    have h3 : mag * 2 ^ (52 - mag.log2) ≤ 2 ^ (mag.log2 + 1) * 2 ^ (52 - mag.log2) := Nat.mul_le_mul_right _ (Nat.le_of_lt hlt)
    rw [← Nat.pow_add] at h3
    have : mag.log2 + 1 + (52 - mag.log2) = 53 := by omega
    rw [this] at h3
    have : (2:Nat) ^ 53 = 9007199254740992 := by decide
    omega
theorem lp : double.leastPlace = -1074 := by decide
theorem bin : double.binade = 4503599627370496 := by decide
theorem infr : double.infRung = 9218868437227405312 := by decide
theorem sgw : double.signWeight = 9223372036854775808 := by decide
theorem near_bd (mag : Nat) (place : Int) (K : Nat) (h1 : -1000 ≤ place) (h2 : place + (mag.log2 : Int) < (K : Int)) : double.nearest false mag place ≤ (K + 1023) * 4503599627370496 := by
  unfold Format.nearest
  rcases Nat.eq_zero_or_pos mag with h0 | h0
  · rw [if_pos h0]; simp [Format.word]
  · rw [if_neg (by omega)]
    dsimp only
    rw [lp, bin]
    have e : max (place + (mag.log2 : Int) - (double.fractionBits : Int)) (-1074) = place + (mag.log2 : Int) - 52 := by
      have : (double.fractionBits : Int) = 52 := rfl
      omega
    rw [e]
    have hk := kept_bd false mag place _ rfl
    unfold Format.word
    rw [if_neg (by simp)]
    refine Nat.le_trans (Nat.min_le_left ..) ?_
    generalize Toward.even.cut false _ _ = c at *
    generalize mag.log2 = L at *
    have : (place + (L : Int) - 52 - -1074).toNat ≤ K + 1021 := by omega
    generalize (place + (L : Int) - 52 - -1074).toNat = t at *
    clear e h2 h1
    omega
/-- What a word not above a rung stands for. -/
theorem read_bd (w K : Nat) (hK : K ≤ 1000) (hw : w ≤ (K + 1023) * 4503599627370496) :
    ∃ m : Nat, ∃ e : Int, double.read w = .number false m e ∧ -1074 ≤ e ∧ ((m < 9007199254740992 ∧ e ≤ (K : Int) - 53) ∨ (m = 4503599627370496 ∧ e = (K : Int) - 52)) := by
  have hs : w < 9223372036854775808 := by omega
  unfold Format.read
  rw [sgw, bin, infr, lp]
  dsimp only
  have hz : (0 % 2 == 1) = false := by decide
  rw [Nat.div_eq_of_lt hs, Nat.mod_eq_of_lt hs, hz]
  by_cases hc : w < 4503599627370496
  · rw [if_pos hc]
    exact ⟨w, -1074, rfl, by omega, .inl ⟨by omega, by omega⟩⟩
  · rw [if_neg hc, if_pos (by omega)]
    refine ⟨4503599627370496 + w % 4503599627370496, -1074 + ((w / 4503599627370496 - 1 : Nat) : Int), rfl, by omega, by omega⟩
theorem rootFrom_sq (n t r : Nat) (h : r * r ≤ n) : Datum.rootFrom n t r * Datum.rootFrom n t r ≤ n := by
  induction t generalizing r with
  | zero => exact h
  | succ t ih =>
    unfold Datum.rootFrom
    dsimp only
    split
    · rename_i h2; exact ih _ h2
    · exact ih _ h
theorem root_bd (m : Nat) (i : Int) (hm : m < 9007199254740992) (h1 : -1074 ≤ i) (h2 : i ≤ 8) : ∃ m' : Nat, ∃ e : Int, (Datum.number false m i).root (double.fractionBits + 2) = some (.number false m' e) ∧ -1100 ≤ e ∧ (m' = 0 ∨ (-1000 ≤ e ∧ e + (m'.log2 : Int) < 31)) := by
  unfold Datum.root
  dsimp only
  rcases Nat.eq_zero_or_pos m with h0 | h0
  · rw [if_pos h0]; exact ⟨_, _, rfl, by omega, .inl h0⟩
  · simp only [if_neg (show m ≠ 0 by omega)]
    have hf : double.fractionBits + 2 = 54 := rfl
    rw [hf]
    have hlog : m.log2 < 53 := (Nat.log2_lt (by omega)).2 (by have : (2:Nat) ^ 53 = 9007199254740992 := by decide
                                                              omega)
    generalize hmore : 2 * 54 - m.log2 + ((i - ((2 * 54 - m.log2 : Nat) : Int)) % 2).toNat = more
    have hmb : more ≤ 109 - m.log2 ∧ 56 ≤ more ∧ (i ≤ 7 ∨ more = 56 ∨ 57 ≤ more) := by omega
    have hN : m <<< more < 2 ^ 110 := by
      rw [Nat.shiftLeft_eq]
      have hlt : m < 2 ^ (m.log2 + 1) := Nat.lt_log2_self
      have h3 : m * 2 ^ more < 2 ^ (m.log2 + 1) * 2 ^ more := Nat.mul_lt_mul_of_pos_right hlt (Nat.two_pow_pos _)
      rw [← Nat.pow_add] at h3
      exact Nat.lt_of_lt_of_le h3 (Nat.pow_le_pow_right (by omega) (by omega))
    generalize hq : Datum.rootFrom (m <<< more) ((m <<< more).log2 / 2 + 1) 0 = q
    have hqq : q * q ≤ m <<< more := by rw [← hq]; exact rootFrom_sq _ _ _ (Nat.zero_le _)
    have hqb : q < 2 ^ 55 := by
      rcases Nat.lt_or_ge q (2 ^ 55) with h | h
      · exact h
      · have := Nat.mul_le_mul h h
        have e : (2:Nat) ^ 55 * 2 ^ 55 = 2 ^ 110 := by decide
        omega
    refine ⟨_, _, rfl, by omega, ?_⟩
    rcases Nat.eq_zero_or_pos (2 * q + (q * q != m <<< more).toNat) with hz | hz
    · exact .inl hz
    · refine .inr ⟨by omega, ?_⟩
      have hb1 : (q * q != m <<< more).toNat ≤ 1 := Bool.toNat_le _
      have : (2 * q + (q * q != m <<< more).toNat).log2 < 56 := (Nat.log2_lt (by omega)).2 (by have : (2:Nat) ^ 56 = 2 * 2 ^ 55 := by decide
                                                                                               omega)
      omega
theorem toInt_bd (m : Nat) (e : Int) (h : (m < 9007199254740992 ∧ e ≤ (31 : Int) - 53) ∨ (m = 4503599627370496 ∧ e = (31 : Int) - 52)) : ∃ q : Nat, (Datum.number false m e).toInt .zero = some (q : Int) ∧ q ≤ 2147483648 := by
  unfold Datum.toInt Datum.integral
  dsimp only
  have e0 : e.toNat = 0 := by omega
  rw [e0, Nat.shiftLeft_zero, cut_zero]
  refine ⟨_, rfl, ?_⟩
  rw [Nat.shiftLeft_zero]
  rcases h with ⟨hm, he⟩ | ⟨hm, he⟩
  · by_cases hd : (-e).toNat ≤ m.log2 + 2
    · rw [Nat.min_eq_left hd]
      have h1 : m / 2 ^ (-e).toNat ≤ m / 2 ^ 22 := Nat.div_le_div_left (Nat.pow_le_pow_right (by omega) (by omega)) (Nat.two_pow_pos _)
      have : (2:Nat)^22 = 4194304 := by decide
      omega
    · rw [Nat.min_eq_right (by omega)]
      have hlt : m < 2 ^ (m.log2 + 1) := Nat.lt_log2_self
      have : (2:Nat) ^ (m.log2 + 2) = 2 * 2 ^ (m.log2 + 1) := by rw [Nat.pow_succ (n := 2) (m := m.log2 + 1), Nat.mul_comm]
      rw [Nat.div_eq_of_lt (by omega)]
      omega
  · subst hm; subst he; decide
/-- The bits of the float root of the number n. -/
def rootBits (n : Int) : Nat := (double.sqrt (floatOfInt .f64 n)).getD 0
/-- The start value of the root. -/
def rootStart (n : Int) : Int := (floatToIntVal .f64 (rootBits n) .i64).getD 0
theorem log_lt60 (n : Nat) (h : n ≤ 1000000000000000000) : n.log2 < 60 := by
  rcases Nat.eq_zero_or_pos n with h0 | h0
  · subst h0; decide
  · exact (Nat.log2_lt (by omega)).2 (by have : (2:Nat) ^ 60 = 1152921504606846976 := by decide
                                         omega)
theorem root_start (n : Int) (h0 : 0 ≤ n) (h1 : n ≤ 1000000000000000000) :
    double.sqrt (floatOfInt .f64 n) = some (rootBits n) ∧ floatToIntVal .f64 (rootBits n) .i64 = some (rootStart n) ∧ 0 ≤ rootStart n ∧ rootStart n ≤ 2147483648 := by
  obtain ⟨k, rfl⟩ := Int.eq_ofNat_of_zero_le h0
  have hk : k ≤ 1000000000000000000 := by omega
  have hw : floatOfInt .f64 (k : Int) ≤ (60 + 1023) * 4503599627370496 := by
    have e : floatOfInt .f64 (k : Int) = double.nearest false k 0 := by
      change double.nearest (decide ((k : Int) < 0)) (k : Int).natAbs 0 = _
      rw [Int.natAbs_natCast, decide_eq_false (by omega)]
    rw [e]
    have := log_lt60 k hk
    exact near_bd k 0 60 (by omega) (by omega)
  obtain ⟨m, e, hr, he, hme⟩ := read_bd _ 60 (by omega) hw
  obtain ⟨m', e', hr', he', hme'⟩ := root_bd m e (by omega) he (by omega)
  have hs : double.sqrt (floatOfInt .f64 (k : Int)) = some (double.nearest false m' e') := by
    unfold Format.sqrt
    rw [hr, hr']
    rfl
  have hw2 : double.nearest false m' e' ≤ (31 + 1023) * 4503599627370496 := by
    rcases hme' with h | h
    · subst h; unfold Format.nearest; rw [if_pos rfl]; simp [Format.word]
    · exact near_bd m' e' 31 h.1 h.2
  obtain ⟨m2, e2, hr2, _, hme2⟩ := read_bd _ 31 (by omega) hw2
  obtain ⟨q, hq, hqb⟩ := toInt_bd m2 e2 hme2
  have hb : rootBits (k : Int) = double.nearest false m' e' := by unfold rootBits; rw [hs]; rfl
  have hf : floatToIntVal .f64 (rootBits (k : Int)) .i64 = some (q : Int) := by
    rw [hb]
    unfold floatToIntVal
    have : FloatKind.f64.decode (double.nearest false m' e') = .number false m2 e2 := hr2
    rw [this, hq]
    dsimp only
    have e1 : IntKind.i64.min = -9223372036854775808 := by decide
    have e2 : IntKind.i64.max = 9223372036854775807 := by decide
    rw [e1, e2, if_pos ⟨by omega, by omega⟩]
  have hst : rootStart (k : Int) = (q : Int) := by unfold rootStart; rw [hf]; rfl
  rw [hst]
  refine ⟨by rw [hs, hb], hf, by omega, by omega⟩
end Go.Proofs.YtlmmpeeacjbobaaGreatDoor
