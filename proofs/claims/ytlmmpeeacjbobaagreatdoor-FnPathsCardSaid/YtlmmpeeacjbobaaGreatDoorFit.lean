/-
  The bounds of a head and a period: what the two packages' tests say, and what follows of the period's own matrix.
-/
import Derived.Test.YtlmmpeeacjbobaaGreatDoorSfp
import Derived.Test.YtlmmpeeacjbobaaGreatDoorFrac
namespace Go.Proofs.YtlmmpeeacjbobaaGreatDoor
open Go.RowKit

theorem fold_app : ∀ (b : List Int) (M : Mt), (b.foldl mtS M).1 = (M.1.1 * (mtx b).1.1 + M.2.1 * (mtx b).1.2, M.1.2 * (mtx b).1.1 + M.2.2 * (mtx b).1.2)
  | [], M => by simp [mtx]
  | t :: b, M => by
    show (b.foldl mtS (mtS M t)).1 = _
    rw [fold_app b (mtS M t), mtx_cons]
    refine Prod.ext ?_ ?_ <;> simp only [mtS] <;> grind
theorem mtx_app (a b : List Int) : (mtx (a ++ b)).1 = ((mtx a).1.1 * (mtx b).1.1 + (mtx a).2.1 * (mtx b).1.2, (mtx a).1.2 * (mtx b).1.1 + (mtx a).2.2 * (mtx b).1.2) := by
  have e : mtx (a ++ b) = b.foldl mtS (mtx a) := by simp [mtx]
  rw [e, fold_app]
def fitE (M : Mt) : Bool := inB M.1.1 (-1000000000) 1000000000 && inB M.1.2 (-1000000000) 1000000000
/-- Of the first n matrices of a list all are small. -/
def fitN (l : List Int) : Nat → Bool
  | 0 => true
  | n + 1 => fitN l n && fitE (mtx (l.take (n + 1)))
def fitL (l : List Int) : Bool := fitN l l.length
theorem fitN_le {l : List Int} {k : Nat} : ∀ {n : Nat}, fitN l n = true → 1 ≤ k → k ≤ n → fitE (mtx (l.take k)) = true
  | 0, _, h1, h2 => by omega
  | n + 1, h, h1, h2 => by
    unfold fitN at h
    rw [Bool.and_eq_true] at h
    rcases Nat.lt_or_ge k (n + 1) with g | g
    · exact fitN_le h.1 h1 (by omega)
    · obtain rfl : k = n + 1 := by omega
      exact h.2
theorem fitN_bad {l : List Int} {k : Nat} : ∀ {n : Nat}, fitE (mtx (l.take (k + 1))) = false → k < n → fitN l n = false
  | 0, _, h2 => by omega
  | n + 1, h, h2 => by
    unfold fitN
    rcases Nat.lt_or_ge k n with g | g
    · rw [fitN_bad h g]; rfl
    · obtain rfl : k = n := by omega
      rw [h, Bool.and_false]
/-- Terms: at least one, 60 at the most, the first one between the bounds, the others from 1 on. -/
def tmsB (l : List Int) : Bool := decide (1 ≤ l.length) && decide (l.length ≤ 60) && inB (l.getD 0 0) (-1000000000) 1000000000 && (l.drop 1).all fun t => inB t 1 1000000000
def pdB (h l : List Int) : Bool := decide (1 ≤ l.length) && decide (1 ≤ l.getD 0 0) && tmsB (h ++ l)
theorem tms_iff {l : List Int} : tmsB l = true ↔ (1 ≤ l.length ∧ l.length ≤ 60) ∧ (-1000000000 ≤ l.getD 0 0 ∧ l.getD 0 0 ≤ 1000000000) ∧ ∀ t ∈ l.drop 1, 1 ≤ t ∧ t ≤ 1000000000 := by
  unfold tmsB
  rw [Bool.and_eq_true, Bool.and_eq_true, Bool.and_eq_true, decide_eq_true_eq, decide_eq_true_eq, inB_iff, List.all_eq_true]
  constructor
  · rintro ⟨⟨h1, h2⟩, h3⟩
    exact ⟨h1, h2, fun t ht => inB_iff.1 (h3 t ht)⟩
  · rintro ⟨h1, h2, h3⟩
    exact ⟨⟨h1, h2⟩, fun t ht => inB_iff.2 (h3 t ht)⟩
theorem pd_facts {h l : List Int} (hp : pdB h l = true) : l ≠ [] ∧ (∀ t ∈ l, 1 ≤ t ∧ t ≤ 1000000000) ∧ (∀ t ∈ h.drop 1, 1 ≤ t ∧ t ≤ 1000000000) ∧ (∀ t ∈ h, -1000000000 ≤ t ∧ t ≤ 1000000000) ∧ h.length + l.length ≤ 60 ∧ 1 ≤ l.length := by
  unfold pdB at hp
  rw [Bool.and_eq_true, Bool.and_eq_true, decide_eq_true_eq, decide_eq_true_eq, tms_iff] at hp
  obtain ⟨⟨h1, h2⟩, ⟨h3, h4⟩, h5, h6⟩ := hp
  rw [List.length_append] at h4
  obtain ⟨x, l', rfl⟩ := List.exists_cons_of_length_pos (show 0 < l.length by omega)
  cases h with
  | nil =>
    rw [List.nil_append] at h5 h6
    simp only [List.getD_cons_zero] at h2 h5
    refine ⟨by simp, ?_, by simp, by simp, by simpa using h4, by simp⟩
    intro t ht
    rcases List.mem_cons.1 ht with e | ht
    · rw [e]; exact ⟨h2, h5.2⟩
    · exact h6 t (by simpa using ht)
  | cons y h' =>
    have h6' : ∀ t ∈ h' ++ x :: l', 1 ≤ t ∧ t ≤ 1000000000 := fun t ht => h6 t (by simpa using ht)
    have h5' : -1000000000 ≤ y ∧ y ≤ 1000000000 := by simpa using h5
    refine ⟨by simp, fun t ht => h6' t (List.mem_append.2 (.inr ht)), fun t ht => h6' t (List.mem_append.2 (.inl (by simpa using ht))), ?_, h4, by simp⟩
    intro t ht
    rcases List.mem_cons.1 ht with e | ht
    · rw [e]; exact h5'
    · have := h6' t (List.mem_append.2 (.inl ht)); omega
theorem mtx_low {h : List Int} (h0 : h ≠ []) (hs : ∀ t ∈ h.drop 1, 1 ≤ t) : 1 ≤ (mtx h).1.2 ∧ 0 ≤ (mtx h).2.2 := by
  obtain ⟨t, ts, rfl⟩ := List.exists_cons_of_ne_nil h0
  rw [mtx_cons]
  simp only
  by_cases e : ts = []
  · subst e; simp [mtx]
  · obtain ⟨h1, h2, h3, h4, _⟩ := pos_mtx e (fun s hs2 => hs s (by simpa using hs2))
    omega
theorem mtx_det (l : List Int) : (mtx l).1.1 * (mtx l).2.2 - (mtx l).2.1 * (mtx l).1.2 = 1 ∨ (mtx l).1.1 * (mtx l).2.2 - (mtx l).2.1 * (mtx l).1.2 = -1 := by
  induction l with
  | nil => exact .inl (by simp [mtx])
  | cons t l ih =>
    rw [mtx_cons]
    simp only
    have e : (t * (mtx l).1.1 + (mtx l).1.2) * (mtx l).2.1 - (t * (mtx l).2.1 + (mtx l).2.2) * (mtx l).1.1 = -((mtx l).1.1 * (mtx l).2.2 - (mtx l).2.1 * (mtx l).1.2) := by grind
    rw [e]
    omega
theorem mtx_gcd (l : List Int) : Int.gcd (mtx l).1.1 (mtx l).1.2 = 1 := by
  have h1 := Int.gcd_dvd_left (mtx l).1.1 (mtx l).1.2
  have h2 := Int.gcd_dvd_right (mtx l).1.1 (mtx l).1.2
  have h3 : ((Int.gcd (mtx l).1.1 (mtx l).1.2 : Nat) : Int) ∣ (mtx l).1.1 * (mtx l).2.2 - (mtx l).2.1 * (mtx l).1.2 := Int.dvd_sub (Int.dvd_mul_of_dvd_left h1) (Int.dvd_mul_of_dvd_right h2)
  have h4 : ((Int.gcd (mtx l).1.1 (mtx l).1.2 : Nat) : Int) ∣ 1 := by
    rcases mtx_det l with e | e
    · rw [e] at h3; exact h3
    · rw [e] at h3; exact Int.dvd_neg.1 h3
  have h5 := Int.natCast_dvd_natCast.1 (show ((Int.gcd (mtx l).1.1 (mtx l).1.2 : Nat) : Int) ∣ ((1 : Nat) : Int) from h4)
  exact Nat.dvd_one.1 h5
/-- A convergent is plain just if it is small. -/
theorem okF_fit {l : List Int} (h0 : l ≠ []) (hs : ∀ t ∈ l.drop 1, 1 ≤ t) : okF (mtx l).1.1 (mtx l).1.2 = fitE (mtx l) := by
  have h1 := (mtx_low h0 hs).1
  unfold okF fitE inB
  rw [mtx_gcd]
  generalize (mtx l).1.1 = p at *
  generalize (mtx l).1.2 = q at *
  have e1 : decide (1 ≤ q) = true := decide_eq_true h1
  have e2 : decide (-1000000000 ≤ q) = true := decide_eq_true (by omega)
  rw [e1, e2]
  simp [Bool.and_comm]
theorem fit_period {h l : List Int} (hp : pdB h l = true) (hf : fitL (h ++ l) = true) {k : Nat} (h1 : 1 ≤ k) (h2 : k ≤ l.length) : PosM (mtx (l.take k)) ∧ (mtx (l.take k)).1.1 ≤ 1000000000 := by
  obtain ⟨p1, p2, p3, _, _, _⟩ := pd_facts hp
  have hne : l.take k ≠ [] := fun e => by
    have := congrArg List.length e
    rw [List.length_take, List.length_nil] at this
    omega
  have hpos := pos_mtx hne (fun t ht => (p2 t (List.mem_of_mem_take ht)).1)
  refine ⟨hpos, ?_⟩
  have hfk := fitN_le hf (k := h.length + k) (by omega) (by rw [List.length_append]; omega)
  have e : (h ++ l).take (h.length + k) = h ++ l.take k := by
    rw [List.take_append, List.take_of_length_le (show h.length ≤ h.length + k by omega)]
    simp
  rw [e] at hfk
  unfold fitE at hfk
  rw [Bool.and_eq_true, inB_iff, inB_iff] at hfk
  by_cases hh : h = []
  · subst hh
    rw [List.nil_append] at hfk
    exact hfk.1.2
  · obtain ⟨a1, a2⟩ := mtx_low hh (fun t ht => (p3 t ht).1)
    rw [mtx_app] at hfk
    simp only at hfk
    obtain ⟨b1, b2, b3, b4, b5, b6, b7, b8⟩ := hpos
    have m1 := Int.mul_le_mul_of_nonneg_right a1 (show 0 ≤ (mtx (l.take k)).1.1 by omega)
    have m2 := Int.mul_nonneg a2 (show 0 ≤ (mtx (l.take k)).1.2 by omega)
    omega
/-- The surd of a head and a period, and its code. -/
def sfM (h l : List Int) : (Int × Int × Int) × Int :=
  if pdB h l then (if fitL (h ++ l) then (match sfH (puD (mtx l)) h (pqP l) with
    | some y => ((y.1, puD (mtx l), y.2), 0)
    | none => ((0, 0, 0), 5)) else ((0, 0, 0), 5)) else ((0, 0, 0), 2)
/-- The bounds of a plain surd of a period. -/
theorem pu_small {l : List Int} (h0 : l ≠ []) (hl : ∀ t ∈ l, 1 ≤ t) (hk : okX (puD (mtx l)) (pqP l) = true) : puA (mtx l) ≤ 2000 ∧ 0 < puA (mtx l) ∧ (-2000 ≤ puB (mtx l) ∧ puB (mtx l) ≤ 2000) ∧ (-1000000 ≤ puC (mtx l) ∧ puC (mtx l) ≤ 1000000) := by
  obtain ⟨a0, R, _⟩ := okX_root hk
  have hp := pos_mtx h0 hl
  obtain ⟨⟨h1, h2⟩, ⟨h3, h4, h5⟩, h6⟩ := pu_red hp R
  obtain ⟨k, k1, k2, k3, k4, k5⟩ := pu_char (mtx l)
  have ht := R.top
  have hd6 := R.d6
  simp only at h1 h2 h3 h4 h5
  have ha : 0 < puA (mtx l) ∧ puA (mtx l) ≤ 2000 := by rcases k1 with rfl | rfl <;> omega
  have hb : -2000 ≤ puB (mtx l) ∧ puB (mtx l) ≤ 2000 := by rcases k1 with rfl | rfl <;> omega
  refine ⟨ha.2, ha.1, hb, ?_⟩
  obtain ⟨a1, a2, a3⟩ := pu_eqs (mtx l)
  have hg := pu_gpos hp
  obtain ⟨q1, q2, q3, q4, q5, q6, q7, q8⟩ := hp
  have hc : puC (mtx l) ≤ 0 := by
    rcases Int.lt_or_le 0 (puC (mtx l)) with e | e
    · have := Int.mul_nonneg (show (0 : Int) ≤ (puG (mtx l) : Nat) by omega) (show 0 ≤ puC (mtx l) by omega)
      omega
    · exact e
  have m1 : 1 * -puC (mtx l) ≤ puA (mtx l) * -puC (mtx l) := Int.mul_le_mul_of_nonneg_right (by omega) (by omega)
  have m2 : 4 * puA (mtx l) * puC (mtx l) = -(4 * (puA (mtx l) * -puC (mtx l))) := by grind
  have m3 : 0 ≤ puB (mtx l) * puB (mtx l) := by
    rcases Int.lt_or_le 0 (puB (mtx l)) with e | e
    · exact Int.mul_nonneg (by omega) (by omega)
    · have := Int.mul_nonneg (show 0 ≤ -puB (mtx l) by omega) (show 0 ≤ -puB (mtx l) by omega)
      have e : -puB (mtx l) * -puB (mtx l) = puB (mtx l) * puB (mtx l) := by grind
      omega
  have m4 : k * k * puD (mtx l) ≤ 4000000 := by rcases k1 with rfl | rfl <;> omega
  omega
end Go.Proofs.YtlmmpeeacjbobaaGreatDoor
