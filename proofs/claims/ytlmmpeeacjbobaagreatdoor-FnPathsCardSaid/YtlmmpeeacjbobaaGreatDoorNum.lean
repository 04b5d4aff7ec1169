/-
  Numbers read from their decimal texts: plain facts.
-/
import Derived.Lib.ItoaLen
import Derived.Lib.ParseIntBCases
import Derived.Lib.Strings
namespace Go.Proofs.YtlmmpeeacjbobaaGreatDoor
open Go.Lib

def isDg (c : UInt8) : Bool := decide (48 ≤ c.toNat) && decide (c.toNat ≤ 57)
/-- What digits spell, behind others. -/
def dgV : Nat → List UInt8 → Nat
  | a, [] => a
  | a, c :: r => dgV (10 * a + (c.toNat - 48)) r
theorem dgV_append : ∀ (x y : List UInt8) (a : Nat), dgV a (x ++ y) = dgV (dgV a x) y
  | [], _, _ => rfl
  | c :: x, y, a => by
    show dgV (10 * a + (c.toNat - 48)) (x ++ y) = _
    rw [dgV_append x y]
    rfl
theorem isDg_iff {c : UInt8} : isDg c = true ↔ 48 ≤ c.toNat ∧ c.toNat ≤ 57 := by
  unfold isDg; rw [Bool.and_eq_true, decide_eq_true_eq, decide_eq_true_eq]
theorem dgV_lt : ∀ (l : List UInt8) (a k : Nat), (∀ c ∈ l, isDg c = true) → a < 10 ^ k → dgV a l < 10 ^ (k + l.length)
  | [], a, k, _, h => h
  | c :: l, a, k, hd, h => by
    have hc := isDg_iff.1 (hd c (by simp))
    have := dgV_lt l (10 * a + (c.toNat - 48)) (k + 1) (fun x hx => hd x (List.mem_cons_of_mem _ hx)) (by rw [Nat.pow_succ]; omega)
    show dgV (10 * a + (c.toNat - 48)) l < _
    rw [List.length_cons, show k + (l.length + 1) = k + 1 + l.length by omega]
    exact this
theorem dgV_ge : ∀ (l : List UInt8) (a : Nat), a ≤ dgV a l
  | [], a => Nat.le_refl a
  | c :: l, a => by
    have := dgV_ge l (10 * a + (c.toNat - 48))
    show a ≤ dgV (10 * a + (c.toNat - 48)) l
    omega
theorem dg_byte' {d : Nat} (h : d < 10) : (UInt8.ofNat (48 + d)).toNat = 48 + d := by
  rw [UInt8.toNat_ofNat']; omega
theorem dec_dgV (u : Nat) : dgV 0 (decDigits u) = u := by
  induction u using Nat.strongRecOn with
  | _ u ih =>
    by_cases h : u < 10
    · rw [decDigits, dif_pos h]
      show 10 * 0 + ((UInt8.ofNat (48 + u)).toNat - 48) = u
      rw [dg_byte' h]; omega
    · rw [decDigits, dif_neg h, dgV_append, ih (u / 10) (by omega)]
      show 10 * (u / 10) + ((UInt8.ofNat (48 + u % 10)).toNat - 48) = u
      rw [dg_byte' (by omega)]; omega
theorem dec_all (u : Nat) : ∀ c ∈ decDigits u, isDg c = true := by
  induction u using Nat.strongRecOn with
  | _ u ih =>
    by_cases h : u < 10
    · rw [decDigits, dif_pos h]
      intro c hc
      rw [List.mem_singleton] at hc
      rw [hc, isDg_iff, dg_byte' h]; omega
    · rw [decDigits, dif_neg h]
      intro c hc
      rcases List.mem_append.1 hc with hc | hc
      · exact ih (u / 10) (by omega) c hc
      · rw [List.mem_singleton] at hc
        rw [hc, isDg_iff, dg_byte' (by omega)]; omega
theorem dec_len1 (u : Nat) : 1 ≤ (decDigits u).length := by rw [decDigits_length]; exact nDigits_pos u
theorem nD_le : ∀ (k u : Nat), u < 10 ^ (k + 1) → nDigits u ≤ k + 1
  | 0, u, h => by rw [nDigits_small (by simpa using h)]; omega
  | k + 1, u, h => by
    by_cases h1 : u < 10
    · rw [nDigits_small h1]; omega
    · rw [nDigits_big h1]
      have := nD_le k (u / 10) (by rw [Nat.pow_succ] at h; omega)
      omega
theorem dec_len18 {u : Nat} (h : u < 1000000000000000000) : (decDigits u).length ≤ 18 := by
  rw [decDigits_length]; exact nD_le 17 u h
theorem dec_lt18 {u : Nat} (h : (decDigits u).length ≤ 18) : u < 1000000000000000000 := by
  rw [decDigits_length] at h
  have h1 := lt_pow_nDigits u
  have h2 : 10 ^ nDigits u ≤ 10 ^ 18 := Nat.pow_le_pow_right (by omega) h
  have h3 : (10 : Nat) ^ 18 = 1000000000000000000 := by decide
  omega
/-- A text without its sign. -/
def magL (l : List UInt8) : List UInt8 := if l.head? = some 45 then l.drop 1 else l
theorem magL_trim (l : List UInt8) : trimPrefix l [45] = magL l := by
  unfold trimPrefix hasPrefix magL
  cases l with
  | nil => rfl
  | cons c r =>
    by_cases h : c = 45
    · subst h; rfl
    · have h1 : ([45] : List UInt8).isPrefixOf (c :: r) = false := by
        simp [List.isPrefixOf, Ne.symm h]
      rw [h1]
      simp [h]
/-- The number that a text spells, if it spells one. -/
def nmL (l : List UInt8) : Int := if l.head? = some 45 then -(dgV 0 (l.drop 1) : Int) else dgV 0 l
def rdM (l : List UInt8) : Option Int := if (magL l).length ≤ 18 ∧ itoa (nmL l) = l then some (nmL l) else none
theorem dec_head (u : Nat) : (decDigits u).head? ≠ some 45 := by
  intro h
  cases e : decDigits u with
  | nil => rw [e] at h; simp at h
  | cons c r =>
    rw [e] at h
    have := isDg_iff.1 (dec_all u c (by rw [e]; simp))
    simp only [List.head?_cons, Option.some.injEq] at h
    subst h
    revert this; decide
theorem mag_itoa (n : Int) : magL (itoa n) = decDigits n.natAbs := by
  unfold itoa
  by_cases h : n < 0
  · rw [if_pos h]; rfl
  · rw [if_neg h]
    unfold magL
    rw [if_neg (dec_head _)]
    congr 1; omega
theorem nm_itoa (n : Int) : nmL (itoa n) = n := by
  unfold itoa nmL
  by_cases h : n < 0
  · rw [if_pos h]
    show (if some (45 : UInt8) = some 45 then -((dgV 0 (decDigits n.natAbs) : Nat) : Int) else _) = n
    rw [if_pos rfl]
    rw [dec_dgV]; omega
  · rw [if_neg h, if_neg (dec_head _), dec_dgV]; omega
theorem rd_itoa {n : Int} (h1 : -1000000000000000000 < n) (h2 : n < 1000000000000000000) : rdM (itoa n) = some n := by
  unfold rdM
  rw [nm_itoa, mag_itoa, if_pos ⟨dec_len18 (by omega), rfl⟩]
theorem rd_some {l : List UInt8} {n : Int} (h : rdM l = some n) : itoa n = l ∧ -1000000000000000000 < n ∧ n < 1000000000000000000 ∧ (∀ c ∈ magL l, isDg c = true) ∧ 1 ≤ (magL l).length ∧ (magL l).length ≤ 18 := by
  unfold rdM at h
  split at h
  · rename_i hc
    obtain ⟨h1, h2⟩ := hc
    injection h with h
    rw [h] at h2
    have hm := mag_itoa n
    rw [h2] at hm
    rw [hm] at h1 ⊢
    have := dec_lt18 h1
    exact ⟨h2, by omega, by omega, dec_all _, dec_len1 _, h1⟩
  · cases h
theorem rd_of {l : List UInt8} {n : Int} (h : itoa n = l) (h18 : (magL l).length ≤ 18) : rdM l = some n := by
  have hm := mag_itoa n
  rw [h] at hm
  rw [hm] at h18
  have := dec_lt18 h18
  rw [← h]
  exact rd_itoa (by omega) (by omega)
/-- No number. -/
theorem rd_none {l : List UInt8} (h : ∀ n, itoa n = l → (magL l).length ≤ 18 → False) : rdM l = none := by
  cases e : rdM l with
  | none => rfl
  | some n =>
    obtain ⟨h1, _, _, _, _, h2⟩ := rd_some e
    exact (h n h1 h2).elim
/-- What the kit's reading of numbers says of a decimal text. -/
theorem parseM_digits {M : Nat} (hM : 1000000000000000000 ≤ M) : ∀ (l : List UInt8) (a : Nat), (∀ c ∈ l, isDg c = true) → dgV a l < 1000000000000000000 → parseUintM M a l = .ok (dgV a l)
  | [], a, _, _ => rfl
  | c :: l, a, hd, h => by
    have hc := isDg_iff.1 (hd c (by simp))
    have hg := dgV_ge l (10 * a + (c.toNat - 48))
    have h' : dgV (10 * a + (c.toNat - 48)) l < 1000000000000000000 := h
    unfold parseUintM
    rw [if_pos hc, if_neg (by omega), if_neg (by omega), show a * 10 + (c.toNat - 48) = 10 * a + (c.toNat - 48) by omega]
    exact parseM_digits hM l _ (fun x hx => hd x (List.mem_cons_of_mem _ hx)) h'
theorem parse_dec {u : Nat} (h : u < 1000000000000000000) : parseUintB 64 (decDigits u) = .ok u := by
  unfold parseUintB
  rw [if_neg (fun e => by have := dec_len1 u; rw [e] at this; simp at this)]
  have := parseM_digits (M := 2 ^ 64 - 1) (by decide) (decDigits u) 0 (dec_all u) (by rw [dec_dgV]; exact h)
  rw [dec_dgV] at this
  exact this
theorem parse_itoa {n : Int} (h1 : -1000000000000000000 < n) (h2 : n < 1000000000000000000) : parseIntB 64 (itoa n) = .ok n := by
  unfold itoa
  by_cases h : n < 0
  · rw [if_pos h, parseIntB_minus, parse_dec (by omega)]
    show (if 2 ^ (64 - 1) < n.natAbs then _ else _) = _
    rw [if_neg (by omega)]
    congr 1; omega
  · rw [if_neg h]
    cases e : decDigits n.toNat with
    | nil => have := dec_len1 n.toNat; rw [e] at this; simp at this
    | cons c r =>
      have hc := isDg_iff.1 (dec_all n.toNat c (by rw [e]; simp))
      rw [parseIntB_plain 64 c r (by omega) (by omega), ← e, parse_dec (by omega)]
      show (if 2 ^ (64 - 1) ≤ n.toNat then _ else _) = _
      rw [if_neg (by omega)]
      congr 1; omega
/-- The program's way: a number that was read counts only if its text is the one given. -/
theorem rd_ok {l : List UInt8} {v : Int} (h18 : (magL l).length ≤ 18) (hp : parseIntB 64 l = .ok v) : rdM l = if itoa v = l then some v else none := by
  by_cases h : itoa v = l
  · rw [if_pos h]; exact rd_of h h18
  · rw [if_neg h]
    refine rd_none fun n hn h2 => ?_
    obtain ⟨_, h3, h4, _⟩ := rd_some (rd_of hn h18)
    have := parse_itoa h3 h4
    rw [hn, hp] at this
    injection this with this
    exact h (by rw [this]; exact hn)
theorem rd_fail {l : List UInt8} (hp : ∀ v, parseIntB 64 l ≠ .ok v) : rdM l = none := by
  refine rd_none fun n hn h2 => ?_
  obtain ⟨_, h3, h4, _⟩ := rd_some (rd_of hn h2)
  have := parse_itoa h3 h4
  rw [hn] at this
  exact hp n this
theorem rd_long {l : List UInt8} (h : 18 < (magL l).length) : rdM l = none := rd_none fun n _ h2 => by omega
/-- The reference's way: digits, and the sign. -/
theorem rd_digits {l : List UInt8} (h18 : (magL l).length ≤ 18) : rdM l = if itoa (nmL l) = l then some (nmL l) else none := by
  unfold rdM
  by_cases h : itoa (nmL l) = l
  · rw [if_pos ⟨h18, h⟩, if_pos h]
  · rw [if_neg (fun x => h x.2), if_neg h]
theorem rd_bad {l : List UInt8} {c : UInt8} (hc : c ∈ magL l) (h : isDg c = false) : rdM l = none := by
  refine rd_none fun n hn h2 => ?_
  obtain ⟨_, _, _, h3, _⟩ := rd_some (rd_of hn h2)
  rw [h3 c hc] at h
  cases h
theorem rd_empty {l : List UInt8} (h : (magL l).length < 1) : rdM l = none := by
  refine rd_none fun n hn h2 => ?_
  obtain ⟨_, _, _, _, h3, _⟩ := rd_some (rd_of hn h2)
  omega
theorem itoa_no {c : UInt8} (h1 : isDg c = false) (h2 : c ≠ 45) (n : Int) : c ∉ itoa n := by
  unfold itoa
  intro h
  split at h
  · rcases List.mem_cons.1 h with h | h
    · exact h2 h
    · rw [dec_all _ c h] at h1; cases h1
  · rw [dec_all _ c h] at h1; cases h1
theorem be_ne {a b : ByteArray} (h : ¬ a = b) : (a.toList == b.toList) = false := by
  rw [beq_eq_false_iff_ne, ByteArray.toList_eq, ByteArray.toList_eq]
  intro e
  apply h
  cases a; cases b
  simp only [ByteArray.mk.injEq]
  exact Array.toList_inj.1 e
end Go.Proofs.YtlmmpeeacjbobaaGreatDoor
