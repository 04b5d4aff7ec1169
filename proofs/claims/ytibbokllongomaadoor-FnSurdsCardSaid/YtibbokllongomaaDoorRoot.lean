/-
  The whole part of the square root, both packages: one plain function; squares.
-/
import Derived.Test.YtibbokllongomaaDoorFloat
namespace Go.Proofs.YtibbokllongomaaDoor
open Go.RowKit

def sqF (n : Nat) : Nat → Nat → Nat
  | 0, r => r
  | k + 1, r => if (r + 2 ^ k) * (r + 2 ^ k) ≤ n then sqF n k (r + 2 ^ k) else sqF n k r
/-- The whole part of the root of a number below 2^62. -/
def isq (n : Nat) : Nat := sqF n 31 0
theorem sqF_spec (n k r : Nat) (h1 : r * r ≤ n) (h2 : n < (r + 2 ^ k) * (r + 2 ^ k)) : sqF n k r * sqF n k r ≤ n ∧ n < (sqF n k r + 1) * (sqF n k r + 1) := by
  induction k generalizing r with
  | zero => exact ⟨h1, h2⟩
  | succ k ih =>
    unfold sqF
    split
    · rename_i h
      refine ih _ h ?_
      have e : r + 2 ^ k + 2 ^ k = r + 2 ^ (k + 1) := by rw [Nat.pow_succ]; omega
      rw [e]; exact h2
    · rename_i h
      exact ih _ h1 (by omega)
theorem isq_spec (n : Nat) (h : n ≤ 1000000000000000000) : isq n * isq n ≤ n ∧ n < (isq n + 1) * (isq n + 1) :=
  sqF_spec n 31 0 (Nat.zero_le _) (by have : (0 + 2 ^ 31) * (0 + 2 ^ 31) = 4611686018427387904 := by decide
                                      omega)
theorem sq_lt {a b : Nat} (h : a * a < b * b) : a < b := by
  rcases Nat.lt_or_ge a b with h1 | h1
  · exact h1
  · have := Nat.mul_le_mul h1 h1; omega
theorem isq_eq {n r : Nat} (h : n ≤ 1000000000000000000) (h1 : r * r ≤ n) (h2 : n < (r + 1) * (r + 1)) : isq n = r := by
  obtain ⟨h3, h4⟩ := isq_spec n h
  have a := sq_lt (Nat.lt_of_le_of_lt h1 h4)
  have b := sq_lt (Nat.lt_of_le_of_lt h3 h2)
  omega
theorem isq_le (n : Nat) (h : n ≤ 1000000000000000000) : isq n ≤ 1000000000 := by
  have h3 := (isq_spec n h).1
  have := @sq_lt (isq n) 1000000001 (by omega)
  omega
/-- The number is a square. -/
def sqB (n : Int) : Bool := if n < 0 then false else (isq n.toNat * isq n.toNat == n.toNat)
theorem cast_sq (m : Nat) : ((m * m : Nat) : Int) = (m : Int) * (m : Int) := Int.natCast_mul m m
theorem cast_sq1 (m : Nat) : (((m + 1) * (m + 1) : Nat) : Int) = ((m : Int) + 1) * ((m : Int) + 1) := Int.natCast_mul (m + 1) (m + 1)
theorem cast_half (a b : Nat) : ((a : Int) + (b : Int)).tdiv 2 = (((a + b) / 2 : Nat) : Int) := by
  rw [← Int.natCast_add]; rfl

def DownR (w : World) (k : Nat) (x : Value) (wr : World) : Prop :=
  ∃ m : Nat, m ≤ 2147483648 ∧ m ≤ k ∧ x = .int .i64 m ∧ Below w.heap.size w wr
def UpR (w : World) (n : Nat) (k : Nat) (x : Value) (wr : World) : Prop :=
  ∃ m : Nat, m ≤ 1000000000 ∧ m + k = 1000000000 ∧ m * m ≤ n ∧ x = .int .i64 m ∧ Below w.heap.size w wr
def CutR (w : World) (n : Nat) (k : Nat) (x y : Value) (wr : World) : Prop :=
  ∃ a b : Nat, a < b ∧ b ≤ 1000000001 ∧ b ≤ a + k + 1 ∧ a * a ≤ n ∧ n < b * b ∧ x = .int .i64 a ∧ y = .int .i64 b ∧ Below w.heap.size w wr
def CutZ (w : World) (k : Nat) (x y : Value) (wr : World) : Prop :=
  ∃ b : Nat, 1 ≤ b ∧ b ≤ 1000000001 ∧ b ≤ k + 1 ∧ x = .int .i64 0 ∧ y = .int .i64 b ∧ Below w.heap.size w wr

theorem sqrt_runs (n : Int) (h0 : 0 ≤ n) (h1 : n ≤ 1000000000000000000) (w : World) :
    (callFunc 120 #[.float .f64 (floatOfInt .f64 n)]).run Tryd.prog w = .ok (.value (.float .f64 (rootBits n))) w := by
  rw [run_callFunc_extern Tryd.func120 (by kernel_rfl) (by kernel_rfl) (by kernel_rfl) (e := Extern.MathSqrt.sqrt) (by kernel_rfl)]
  have h := (root_start n h0 h1).1
  have e : FloatKind.f64.format.sqrt (floatOfInt .f64 n) = some (rootBits n) := h
  change (Sem.run Tryd.prog (match FloatKind.f64.format.sqrt (floatOfInt .f64 n) with
    | some r => (pure (Value.float .f64 r) : Sem Value)
    | none => do pure (Value.float .f64 (← choose (.nanBits .f64 (floatOfInt .f64 n) (floatOfInt .f64 n))))) w).andThen _ = _
  rw [e]
  rfl
theorem mathSqrt_any (n : Int) (h0 : 0 ≤ n) (h1 : n ≤ 1000000000000000000) (w : World) :
    Calls Tryd.prog 103 #[.float .f64 (floatOfInt .f64 n)] w (Ret w (.float .f64 (rootBits n))) := by
  have hs := sqrt_runs n h0 h1 w
  go_enter Tryd.func103, Tryd.ntmps103
  go_wp2
  go_ret
  refine ⟨by first | rfl | (simp), ?_⟩
  repeat' (first | (with_reducible exact Below.refl _ _) | (with_reducible assumption) | (with_reducible refine Below.alloc ?_ ?_ _) | (with_reducible refine Below.drew ?_) | (with_reducible refine bdrewN ?_ _) | (with_reducible refine Below.setCell ?_ ?_ _) | (with_reducible refine bthen ?_ (by assumption) ?_) | go_size)

set_option maxHeartbeats 2000000 in
theorem root_any (n : Nat) (h1 : n ≤ 1000000000000000000) (r : Int) (hr : ((isq n : Nat) : Int) = r) (w : World) : Calls Tryd.prog 84 #[.int .i64 n] w (Ret w (.int .i64 r)) := by
  have HRR := Lib.hid hr
  clear hr
  have hcl := mathSqrt_any n (by omega) (by omega) w
  obtain ⟨_, hf, hq0, hq1⟩ := root_start n (by omega) (by omega)
  have hcv : ∀ w, (convert 121 2 (.float .f64 (rootBits n))).run Tryd.prog w = .ok (.int .i64 (rootStart n)) w := fun w =>
    run_convert_float_int w _ _ _ _ _ _ (by kernel_rfl) Tryd.underlying2 hf
  obtain ⟨q, hq⟩ := Int.eq_ofNat_of_zero_le hq0
  rw [hq] at hcv hq1
  clear hf hq0 hq
  go_enter Tryd.func84, Tryd.ntmps84
  go_wp2_with fail
  apply Calls.mono
  · with_reducible exact hcl
  rintro _ w1 ⟨rfl, hb_w1⟩
  obtain ⟨hc_w1, hf_w1, hs_w1⟩ := bcell hb_w1
  try simp at hs_w1
  have hcv1 := hcv w1
  clear hcv hcl
  go_wp2_with fail
  go_loopg [3] q (DownR w)
  case atStart => exact ⟨q, by omega, Nat.le_refl _, rfl, hb_w1⟩
  obtain ⟨m, hm1, hm2, rfl, hbw⟩ := hrel
  have hmm := Nat.mul_le_mul hm1 hm1
  have hcs := cast_sq m
  by_cases hle : m * m ≤ n
  · have hcs1 : (m : Int) * (m : Int) ≤ (n : Int) := by omega
    have hcs2 : ¬ (m : Int) * (m : Int) > (n : Int) := by omega
    have hcs3 : (0:Int) ≤ (m : Int) * (m : Int) := by omega
    have hm3 : m ≤ 1000000000 := by
      have := @sq_lt m 1000000001 (by omega)
      omega
    clear hcs hmm
    go_wp2
    go_loopg [3] (1000000000 - m) (UpR wr n)
    case atStart => exact ⟨m, hm3, by omega, hle, rfl, Below.refl _ _⟩
    obtain ⟨wo, rfl⟩ : ∃ wo : World, wo = wr := ⟨_, rfl⟩
    obtain ⟨p, hp1, hp2, hp3, rfl, hb2⟩ := hrel
    have hsz := hbw.size
    have hpp := Nat.mul_le_mul (show p + 1 ≤ 1000000001 by omega) (show p + 1 ≤ 1000000001 by omega)
    have hcp := cast_sq1 p
    by_cases hl2 : (p + 1) * (p + 1) ≤ n
    · have hc1 : ((p : Int) + 1) * ((p : Int) + 1) ≤ (n : Int) := by omega
      have hc3 : (0:Int) ≤ ((p : Int) + 1) * ((p : Int) + 1) := by omega
      have hp4 : p + 1 ≤ 1000000000 := by
        have := @sq_lt (p + 1) 1000000001 (by omega)
        omega
      obtain ⟨k2, rfl⟩ := Nat.exists_eq_succ_of_ne_zero (show gk ≠ 0 by omega)
      clear hcp hpp
      go_wp2
      go_roundg k2
      case measure => omega
      case rel => exact ⟨p + 1, hp4, by omega, hl2, by go_num, hb2⟩
    · have hc1 : ¬ ((p : Int) + 1) * ((p : Int) + 1) ≤ (n : Int) := by omega
      have hc3 : (0:Int) ≤ ((p : Int) + 1) * ((p : Int) + 1) := by omega
      have hc4 : ((p : Int) + 1) * ((p : Int) + 1) ≤ 2000000000000000000 := by omega
      obtain rfl : (p : Int) = r := by rw [← HRR.out, isq_eq h1 hp3 (by omega)]
      clear hcp hpp HRR hl2
      go_wp2
      go_ret
      refine ⟨by first | rfl | (simp), ?_⟩
      repeat' (first | (with_reducible exact Below.refl _ _) | (with_reducible assumption) | (with_reducible refine Below.alloc ?_ ?_ _) | (with_reducible refine Below.drew ?_) | (with_reducible refine bdrewN ?_ _) | (with_reducible refine Below.setCell ?_ ?_ _) | (with_reducible refine bthen ?_ (by assumption) ?_) | go_size)
  · have hcs1 : ¬ (m : Int) * (m : Int) ≤ (n : Int) := by omega
    have hcs2 : (m : Int) * (m : Int) > (n : Int) := by omega
    have hcs3 : (0:Int) ≤ (m : Int) * (m : Int) := by omega
    have hcs4 : (m : Int) * (m : Int) ≤ 4611686018427387904 := by omega
    have hm0 : m ≠ 0 := by intro h; subst h; omega
    obtain ⟨p, hp⟩ : ∃ p : Nat, m = p + 1 := ⟨m - 1, by omega⟩
    have hp' : (p : Int) = (m : Int) - 1 := by omega
    have HP := Lib.hid hp'
    obtain ⟨k2, rfl⟩ := Nat.exists_eq_succ_of_ne_zero (show gk ≠ 0 by omega)
    have hpm : p ≤ k2 := by omega
    have hpb : p ≤ 2147483648 := by omega
    have hm1' : (m : Int) ≤ 2147483648 := by omega
    have hm1'' : 1 ≤ (m : Int) := by omega
    clear hcs hmm hp hp' hle hcs1 hm0
    go_wp2
    go_roundg k2
    case measure => omega
    case rel => exact ⟨p, hpb, hpm, by rw [HP.out], hbw⟩
theorem isSquare_any (n : Int) (h1 : n ≤ 1000000000000000000) (r : Bool) (hr : sqB n = r) (w : World) : Calls Tryd.prog 54 #[.int .i64 n] w (Ret w (.bool r)) := by
  unfold sqB at hr
  go_enter Tryd.func54, Tryd.ntmps54
  by_cases hn : n < 0
  · rw [if_pos hn] at hr
    subst hr
    go_wp2
    go_ret
    refine ⟨by first | rfl | (simp), ?_⟩
    repeat' (first | (with_reducible exact Below.refl _ _) | (with_reducible assumption) | (with_reducible refine Below.alloc ?_ ?_ _) | (with_reducible refine Below.drew ?_) | (with_reducible refine bdrewN ?_ _) | (with_reducible refine Below.setCell ?_ ?_ _) | (with_reducible refine bthen ?_ (by assumption) ?_) | go_size)
  · rw [if_neg hn] at hr
    obtain ⟨k, rfl⟩ := Int.eq_ofNat_of_zero_le (show 0 ≤ n by omega)
    rw [Int.toNat_natCast] at hr
    have hk : k ≤ 1000000000000000000 := by omega
    have hb := isq_le k hk
    have hbb := Nat.mul_le_mul hb hb
    have hcs := cast_sq (isq k)
    have h3 : (0:Int) ≤ (isq k : Int) * (isq k : Int) := by omega
    have h4 : (isq k : Int) * (isq k : Int) ≤ 1000000000000000000 := by omega
    obtain rfl : ((isq k : Int) * (isq k : Int) == (k : Int)) = r := by
      rw [← hr, ← hcs]
      by_cases h : isq k * isq k = k
      · rw [h]; simp
      · rw [beq_eq_false_iff_ne.2 h, beq_eq_false_iff_ne.2 (by omega)]
    clear hr hcs
    go_wp2_with fail
    apply Calls.mono
    · with_reducible exact root_any k hk _ rfl _
    rintro _ w1 ⟨rfl, hb_w1⟩
    obtain ⟨hc_w1, hf_w1, hs_w1⟩ := bcell hb_w1
    try simp at hs_w1
    go_wp2
    go_ret
    refine ⟨by first | rfl | (simp), ?_⟩
    repeat' (first | (with_reducible exact Below.refl _ _) | (with_reducible assumption) | (with_reducible refine Below.alloc ?_ ?_ _) | (with_reducible refine Below.drew ?_) | (with_reducible refine bdrewN ?_ _) | (with_reducible refine Below.setCell ?_ ?_ _) | (with_reducible refine bthen ?_ (by assumption) ?_) | go_size)

set_option maxHeartbeats 2000000 in
theorem l07Root_any (n : Nat) (h1 : n ≤ 1000000000000000000) (r : Int) (hr : ((isq n : Nat) : Int) = r) (w : World) : Calls Tryd.prog 80 #[.int .i64 n] w (Ret w (.int .i64 r)) := by
  have HRR := Lib.hid hr
  clear hr
  go_enter Tryd.func80, Tryd.ntmps80
  go_wp2_with fail
  go_loopg [3, 4] 1000000000 (CutR w n)
  case atStart => exact ⟨0, 1000000001, by omega, by omega, by omega, by omega, by omega, rfl, rfl, Below.refl _ _⟩
  obtain ⟨a, b, hab, hb, hk, ha2, hb2, rfl, rfl, hbw⟩ := hrel
  by_cases hd : a + 1 < b
  · obtain ⟨k2, rfl⟩ := Nat.exists_eq_succ_of_ne_zero (show gk ≠ 0 by omega)
    have hh := cast_half a b
    have hc1 : a < (a + b) / 2 := by omega
    have hc2 : (a + b) / 2 < b := by omega
    generalize hc : (a + b) / 2 = c at *
    have hcc := Nat.mul_le_mul (show c ≤ 1000000001 by omega) (show c ≤ 1000000001 by omega)
    have hcs := cast_sq c
    have h3 : (0:Int) ≤ (c : Int) * (c : Int) := by omega
    have h4 : (c : Int) * (c : Int) ≤ 2000000000000000000 := by omega
    by_cases hle : c * c ≤ n
    · have h5 : (c : Int) * (c : Int) ≤ (n : Int) := by omega
      have HC := Lib.hid hc
      clear hcs hcc hc
      go_wp2
      go_roundg k2
      case measure => omega
      case rel => exact ⟨c, b, hc2, hb, by omega, hle, hb2, rfl, rfl, hbw⟩
    · have h5 : ¬ (c : Int) * (c : Int) ≤ (n : Int) := by omega
      have HC := Lib.hid hc
      clear hcs hcc hc
      go_wp2
      go_roundg k2
      case measure => omega
      case rel => exact ⟨a, c, hc1, by omega, by omega, ha2, by omega, rfl, rfl, hbw⟩
  · obtain rfl : b = a + 1 := by omega
    obtain rfl : (a : Int) = r := by rw [← HRR.out, isq_eq h1 ha2 hb2]
    clear HRR
    go_wp2
    go_ret
    refine ⟨by first | rfl | (simp), ?_⟩
    repeat' (first | (with_reducible exact Below.refl _ _) | (with_reducible assumption) | (with_reducible refine Below.alloc ?_ ?_ _) | (with_reducible refine Below.drew ?_) | (with_reducible refine bdrewN ?_ _) | (with_reducible refine Below.setCell ?_ ?_ _) | (with_reducible refine bthen ?_ (by assumption) ?_) | go_size)
set_option maxHeartbeats 2000000 in
theorem l07Root_neg (n : Int) (h1 : n < 0) (h2 : -9000000000000000000 ≤ n) (w : World) : Calls Tryd.prog 80 #[.int .i64 n] w (Ret w (.int .i64 0)) := by
  go_enter Tryd.func80, Tryd.ntmps80
  go_wp2_with fail
  go_loopg [3, 4] 1000000000 (CutZ w)
  case atStart => exact ⟨1000000001, by omega, by omega, by omega, rfl, rfl, Below.refl _ _⟩
  obtain ⟨b, h1b, hb, hk, rfl, rfl, hbw⟩ := hrel
  by_cases hd : 1 < b
  · obtain ⟨k2, rfl⟩ := Nat.exists_eq_succ_of_ne_zero (show gk ≠ 0 by omega)
    have hh : ((0:Int) + (b : Int)).tdiv 2 = (((b / 2 : Nat)) : Int) := by rw [Int.zero_add]; rfl
    have hh2 : ((b : Int)).tdiv 2 = (((b / 2 : Nat)) : Int) := rfl
    have hc1 : 0 < b / 2 := by omega
    have hc2 : b / 2 < b := by omega
    generalize hc : b / 2 = c at *
    have hcc := Nat.mul_le_mul (show c ≤ 1000000001 by omega) (show c ≤ 1000000001 by omega)
    have hcs := cast_sq c
    have h3 : (0:Int) ≤ (c : Int) * (c : Int) := by omega
    have h4 : (c : Int) * (c : Int) ≤ 2000000000000000000 := by omega
    have h5 : ¬ (c : Int) * (c : Int) ≤ n := by omega
    have HC := Lib.hid hc
    clear hcs hcc hc
    go_wp2
    go_roundg k2
    case measure => omega
    case rel => exact ⟨c, by omega, by omega, by omega, rfl, rfl, hbw⟩
  · obtain rfl : b = 1 := by omega
    go_wp2
    go_ret
    refine ⟨by first | rfl | (simp), ?_⟩
    repeat' (first | (with_reducible exact Below.refl _ _) | (with_reducible assumption) | (with_reducible refine Below.alloc ?_ ?_ _) | (with_reducible refine Below.drew ?_) | (with_reducible refine bdrewN ?_ _) | (with_reducible refine Below.setCell ?_ ?_ _) | (with_reducible refine bthen ?_ (by assumption) ?_) | go_size)
theorem l07Square_any (n : Int) (h0 : -9000000000000000000 ≤ n) (h1 : n ≤ 1000000000000000000) (r : Bool) (hr : sqB n = r) (w : World) : Calls Tryd.prog 78 #[.int .i64 n] w (Ret w (.bool r)) := by
  unfold sqB at hr
  go_enter Tryd.func78, Tryd.ntmps78
  by_cases hn : n < 0
  · rw [if_pos hn] at hr
    subst hr
    go_wp2_with fail
    apply Calls.mono
    · with_reducible exact l07Root_neg n hn h0 _
    rintro _ w1 ⟨rfl, hb_w1⟩
    obtain ⟨hc_w1, hf_w1, hs_w1⟩ := bcell hb_w1
    try simp at hs_w1
    have hn0 : ((0:Int) == n) = false := beq_eq_false_iff_ne.2 (by omega)
    go_wp2
    go_ret
    refine ⟨by first | rfl | (simp), ?_⟩
    repeat' (first | (with_reducible exact Below.refl _ _) | (with_reducible assumption) | (with_reducible refine Below.alloc ?_ ?_ _) | (with_reducible refine Below.drew ?_) | (with_reducible refine bdrewN ?_ _) | (with_reducible refine Below.setCell ?_ ?_ _) | (with_reducible refine bthen ?_ (by assumption) ?_) | go_size)
  · rw [if_neg hn] at hr
    obtain ⟨k, rfl⟩ := Int.eq_ofNat_of_zero_le (show 0 ≤ n by omega)
    rw [Int.toNat_natCast] at hr
    have hk : k ≤ 1000000000000000000 := by omega
    have hb := isq_le k hk
    have hbb := Nat.mul_le_mul hb hb
    have hcs := cast_sq (isq k)
    have h3 : (0:Int) ≤ (isq k : Int) * (isq k : Int) := by omega
    have h4 : (isq k : Int) * (isq k : Int) ≤ 1000000000000000000 := by omega
    obtain rfl : ((isq k : Int) * (isq k : Int) == (k : Int)) = r := by
      rw [← hr, ← hcs]
      by_cases h : isq k * isq k = k
      · rw [h]; simp
      · rw [beq_eq_false_iff_ne.2 h, beq_eq_false_iff_ne.2 (by omega)]
    clear hr hcs
    go_wp2_with fail
    apply Calls.mono
    · with_reducible exact l07Root_any k hk _ rfl _
    rintro _ w1 ⟨rfl, hb_w1⟩
    obtain ⟨hc_w1, hf_w1, hs_w1⟩ := bcell hb_w1
    try simp at hs_w1
    go_wp2
    go_ret
    refine ⟨by first | rfl | (simp), ?_⟩
    repeat' (first | (with_reducible exact Below.refl _ _) | (with_reducible assumption) | (with_reducible refine Below.alloc ?_ ?_ _) | (with_reducible refine Below.drew ?_) | (with_reducible refine bdrewN ?_ _) | (with_reducible refine Below.setCell ?_ ?_ _) | (with_reducible refine bthen ?_ (by assumption) ?_) | go_size)
end Go.Proofs.YtibbokllongomaaDoor
