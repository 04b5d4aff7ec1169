/-
  Parts of the proof in one text (put together by fuse.py: Law Draw2 Kp Sm Sl Sn Bo Nx Co F6f Ce).
-/
import Derived.Test.YtlmmpeeacjbobaaInts
import Derived.ProofKit
import Derived.OpenShut
import Derived.ShutString
import Derived.ChangeOld
import Derived.Below
import Derived.Lib.SmallJoins
import Derived.Test.YtlmmpeeacjbobaaDraw
import Derived.Test.YtlmmpeeacjbobaaRow
import Derived.Test.YtlmmpeeacjbobaaFrac2
import Derived.Test.YtlmmpeeacjbobaaFarey3
import Derived.Test.YtlmmpeeacjbobaaTz
import Derived.Test.YtlmmpeeacjbobaaNg
import Derived.Test.YtlmmpeeacjbobaaCd
import Derived.Test.YtlmmpeeacjbobaaTu
import Derived.Test.YtlmmpeeacjbobaaFr
namespace Go.Proofs.Ytlmmpeeacjbobaa
open Go.ChangeShapes Go.WideShapes Go.ChangeAt Go.RowKit Go.Joins
open Go.ChangeMaps (open_string shut_string)

theorem own : ownKnob Try.prog.godebug = none := by kernel_rfl
theorem laidOut : laidOutB Try.prog = true := by kernel_rfl

/-- What the walk is told of a slice of integers that came in: it is nil; or it leads to a row of 'cap' cells, the numbers 'zs' (the first 'len' are its elements, the rest its spare room), each fitting its kind. -/
def IsRow (k : IntKind) (w : World) (a : Option Addr) (len cap : Nat) (zs : List Int) : Prop :=
  (a = none ∧ len = 0 ∧ cap = 0 ∧ zs = []) ∨
  ∃ x, a = some x ∧ len ≤ cap ∧ cap ≤ maxLen ∧ zs.length = cap ∧ (∀ i, i < zs.length → w.cell? (x.add i) = some (.int k (zs.getD i 0))) ∧ ∀ n ∈ zs, (Lit.int k n).wf = true
theorem rd_of_row {w : World} {a : Option Addr} {len cap : Nat} {zs : List Int} (h : IsRow .i64 w a len cap zs) : Rd w 1 (.slice a len cap) len (ints (zs.take len)) ∧ (zs.take len).length = len := by
  rcases h with ⟨rfl, rfl, rfl, rfl⟩ | ⟨x, rfl, hl, hm, hz, hcell, _⟩
  · exact ⟨⟨none, 0, rfl, Nat.le_refl _, by simp [maxLen], by simp [ints], .inl rfl⟩, by simp⟩
  · have hlen : (zs.take len).length = len := by rw [List.length_take]; omega
    refine ⟨⟨_, _, rfl, hl, hm, by rw [ints_len, hlen]; omega, ?_⟩, hlen⟩
    by_cases h0 : len = 0
    · exact .inl h0
    · obtain ⟨b, off, spot⟩ := x
      have hspot : spot = none := by
        have hc := hcell 0 (by omega)
        simpa [Addr.add] using World.cell?_spot hc
      subst hspot
      refine .inr ⟨b, off, rfl, ?_, ?_⟩
      · have hc := hcell 0 (by omega)
        exact World.block_lt_of_cell? w _ hc
      · intro j u hu
        have hj : j < len := by
          rcases Nat.lt_or_ge j len with h' | h'
          · exact h'
          · rw [List.getElem?_eq_none (by rw [ints_len, hlen]; omega)] at hu; cases hu
        have hc := hcell j (by omega)
        have e1 : (⟨b, off, none⟩ : Addr).add j = ⟨b, off + j, none⟩ := by unfold Addr.add; by_cases h : j = 0 <;> simp [h]
        rw [e1] at hc
        rw [hc]
        simp only [ints, List.getElem?_map, List.getElem?_take, if_pos hj] at hu
        rw [List.getD_eq_getElem?_getD, List.getElem?_eq_getElem (by omega)]
        rw [List.getElem?_eq_getElem (by omega)] at hu
        simpa using hu
end Go.Proofs.Ytlmmpeeacjbobaa
namespace Go.Proofs.Ytlmmpeeacjbobaa
open Go.RowKit

theorem byteRd_of_row {w : World} {a : Option Addr} {len cap : Nat} {zs : List Int} (h : IsRow .u8 w a len cap zs) : ByteRd w w.heap.size a len := by
  rcases h with ⟨rfl, rfl, rfl, rfl⟩ | ⟨x, rfl, hl, hm, hz, hcell, hwf⟩
  · exact .inl rfl
  · by_cases h0 : len = 0
    · exact .inl h0
    · obtain ⟨b, off, spot⟩ := x
      have hspot : spot = none := by
        have hc := hcell 0 (by omega)
        simpa [Addr.add] using World.cell?_spot hc
      subst hspot
      have hlt : b < w.heap.size := by
        have hc := hcell 0 (by omega)
        exact World.block_lt_of_cell? w _ hc
      refine .inr ⟨b, off, rfl, hlt, by omega, fun j hj => ?_⟩
      have hc := hcell j (by omega)
      have e1 : (⟨b, off, none⟩ : Addr).add j = ⟨b, off + j, none⟩ := by unfold Addr.add; by_cases h : j = 0 <;> simp [h]
      rw [e1] at hc
      have hw := bounds_u8 (hwf (zs.getD j 0) (by rw [List.getD_eq_getElem?_getD, List.getElem?_eq_getElem (by omega)]; exact List.getElem_mem _))
      exact ⟨_, hw, hc⟩
end Go.Proofs.Ytlmmpeeacjbobaa
namespace Go.Proofs.Ytlmmpeeacjbobaa
open Go.RowKit

/-- Boxes of fractions that a walk keeps. -/
def Kp (w : World) (t : TypeId) (l : List (Nat × Int × Int)) : Prop := ∀ p ∈ l, Blk w p.1 t #[.int .i64 p.2.1, .int .i64 p.2.2]
theorem Kp.below {w w' : World} {t : TypeId} {l : List (Nat × Int × Int)} (h : Kp w t l) (hb : Below w.heap.size w w') : Kp w' t l := fun p hp => (h p hp).below hb (h p hp).lt
theorem Kp.box {w : World} {t : TypeId} {l : List (Nat × Int × Int)} (h : Kp w t l) (n d : Int) : Kp (w.alloc (.cells #[.int .i64 n, .int .i64 d] t)) t ((w.heap.size, n, d) :: l) := by
  intro p hp
  rcases List.mem_cons.1 hp with rfl | hp
  · exact Blk.new w t _
  · exact (h p hp).alloc _
theorem Kp.nil (w : World) (t : TypeId) : Kp w t [] := fun p hp => by simp at hp
theorem Kp.sub {w : World} {t : TypeId} {l l' : List (Nat × Int × Int)} (h : Kp w t l) (hs : ∀ p ∈ l', p ∈ l) : Kp w t l' := fun p hp => h p (hs p hp)
theorem Kp.at_ {w : World} {t : TypeId} {l : List (Nat × Int × Int)} (h : Kp w t l) (i : Nat) {g : Nat} {n d : Int} (hi : l[i]? = some (g, n, d)) : w.cell? ⟨g, 0, none⟩ = some (.int .i64 n) ∧ w.cell? ⟨g, 1, none⟩ = some (.int .i64 d) ∧ g < w.heap.size := by
  have b := h _ (List.mem_of_getElem? hi)
  exact ⟨b.cell 0, b.cell 1, b.lt⟩
end Go.Proofs.Ytlmmpeeacjbobaa
namespace Go.Proofs.Ytlmmpeeacjbobaa
open Go.RowKit

/-- The simplest fraction between a / b and c / d. -/
def smF : Nat → Int → Int → Int → Int → Int × Int
  | 0, a, b, _, _ => (a / b + 1, 1)
  | k + 1, a, b, c, d => if d = 0 ∨ (a / b + 1) * d < c then (a / b + 1, 1) else (a / b * (smF k d (c - a / b * d) b (a - a / b * b)).1 + (smF k d (c - a / b * d) b (a - a / b * b)).2, (smF k d (c - a / b * d) b (a - a / b * b)).1)
/-- What the four numbers hold. -/
structure SmI (k : Nat) (a b c d : Int) : Prop where
  a0 : 0 ≤ a
  a1 : a ≤ 1000000000
  b0 : 1 ≤ b
  b1 : b ≤ 1000000000
  c0 : 0 ≤ c
  c1 : c ≤ 1000000000
  d0 : 0 ≤ d
  d1 : d ≤ 1000000000
  lt : a * d < c * b
  fuel : b + d ≤ (k : Int)
theorem sm_floor {a b : Int} (a0 : 0 ≤ a) (b0 : 1 ≤ b) : 0 ≤ a / b ∧ a / b ≤ a ∧ 0 ≤ a - a / b * b ∧ a - a / b * b < b := by
  have e := Int.emod_add_mul_ediv a b
  have r0 := Int.emod_nonneg a (show b ≠ 0 by omega)
  have r1 := Int.emod_lt_of_pos a (show 0 < b by omega)
  rw [Int.mul_comm b] at e
  exact ⟨Int.ediv_nonneg a0 (by omega), Int.ediv_le_self _ a0, by omega, by omega⟩
/-- The numbers of the inner call. -/
theorem sm_inner {k : Nat} {a b c d : Int} (h : SmI (k + 1) a b c d) (hc : ¬ (a / b + 1) * d < c) : SmI k d (c - a / b * d) b (a - a / b * b) ∧ c - a / b * d ≤ d ∧ 0 ≤ a / b * d ∧ a / b * d ≤ c := by
  obtain ⟨a0, a1, b0, b1, c0, c1, d0, d1, lt, fuel⟩ := h
  obtain ⟨w0, w1, w2, w3⟩ := sm_floor a0 b0
  generalize hw : a / b = w at *
  have m0 := Int.mul_nonneg w0 d0
  have e1 : (w + 1) * d = w * d + d := by rw [Int.add_mul, Int.one_mul]
  rw [e1] at hc
  have k1 : w * d < c := by
    -- w b ≤ a, so w b d ≤ a d < c b
    have h1 := Int.mul_le_mul_of_nonneg_right (show w * b ≤ a by omega) d0
    have e2 : w * b * d = (w * d) * b := by grind
    rw [e2] at h1
    exact Int.lt_of_mul_lt_mul_right (Int.lt_of_le_of_lt h1 lt) (by omega)
  refine ⟨⟨d0, d1, by omega, by omega, by omega, b1, by omega, by omega, ?_, by omega⟩, by omega, m0, by omega⟩
  have e3 : d * (a - w * b) = a * d - w * b * d := by grind
  have e4 : b * (c - w * d) = c * b - w * b * d := by grind
  rw [e3, e4]
  omega
theorem sm_stop {a b c d : Int} (h : d = 0 ∨ (a / b + 1) * d < c) (k : Nat) : smF (k + 1) a b c d = (a / b + 1, 1) := by
  show (if _ then _ else _) = _
  rw [if_pos h]
theorem sm_go {a b c d : Int} (h : ¬ (d = 0 ∨ (a / b + 1) * d < c)) (k : Nat) : smF (k + 1) a b c d = (a / b * (smF k d (c - a / b * d) b (a - a / b * b)).1 + (smF k d (c - a / b * d) b (a - a / b * b)).2, (smF k d (c - a / b * d) b (a - a / b * b)).1) := by
  show (if _ then _ else _) = _
  rw [if_neg h]
theorem sm_fuel {a b c d : Int} (h : SmI 0 a b c d) : False := by
  obtain ⟨a0, a1, b0, b1, c0, c1, d0, d1, lt, fuel⟩ := h
  omega
/-- The result is small. -/
theorem sm_bd : ∀ (k : Nat) (a b c d : Int), SmI k a b c d → 1 ≤ (smF k a b c d).1 ∧ (smF k a b c d).1 ≤ a + c ∧ 1 ≤ (smF k a b c d).2 ∧ (smF k a b c d).2 ≤ b + d
  | 0, a, b, c, d, h => (sm_fuel h).elim
  | k + 1, a, b, c, d, h => by
    obtain ⟨w0, w1, w2, w3⟩ := sm_floor h.a0 h.b0
    by_cases hs : d = 0 ∨ (a / b + 1) * d < c
    · rw [sm_stop hs]
      simp only
      have hb := h.b0
      have hd := h.d0
      refine ⟨by omega, ?_, by omega, by omega⟩
      rcases hs with e | e
      · have hlt := h.lt
        rw [e, Int.mul_zero] at hlt
        have hc : 1 ≤ c := by
          rcases Int.lt_or_le 0 c with g | g
          · exact g
          · have := Int.mul_le_mul_of_nonneg_right g (show 0 ≤ b by omega)
            omega
        omega
      · by_cases e2 : d = 0
        · rw [e2, Int.mul_zero] at e; omega
        · have := Int.mul_le_mul_of_nonneg_left (show 1 ≤ d by omega) (show 0 ≤ a / b + 1 by omega)
          have ha := h.a0
          omega
    · rw [sm_go hs]
      obtain ⟨hi, _, _, _⟩ := sm_inner h (fun e => hs (.inr e))
      obtain ⟨i1, i2, i3, i4⟩ := sm_bd k _ _ _ _ hi
      simp only
      generalize (smF k d (c - a / b * d) b (a - a / b * b)).1 = q at *
      generalize (smF k d (c - a / b * d) b (a - a / b * b)).2 = p at *
      generalize a / b = w at *
      have m1 := Int.mul_nonneg w0 (show 0 ≤ q by omega)
      have m2 := Int.mul_le_mul_of_nonneg_left i2 w0
      have e1 : w * (d + b) = w * d + w * b := Int.mul_add _ _ _
      omega
/-- The result lies between, is in lowest terms, and each fraction between has greater or the same terms. -/
theorem sm_law : ∀ (k : Nat) (a b c d : Int), SmI k a b c d → a * (smF k a b c d).2 < (smF k a b c d).1 * b ∧ (smF k a b c d).1 * d < c * (smF k a b c d).2 ∧ Int.gcd (smF k a b c d).1 (smF k a b c d).2 = 1 ∧
    ∀ x y : Int, 1 ≤ y → a * y < x * b → x * d < c * y → (smF k a b c d).2 ≤ y ∧ (smF k a b c d).1 ≤ x
  | 0, a, b, c, d, h => (sm_fuel h).elim
  | k + 1, a, b, c, d, h => by
    obtain ⟨w0, w1, w2, w3⟩ := sm_floor h.a0 h.b0
    have hb := h.b0
    have ha := h.a0
    by_cases hs : d = 0 ∨ (a / b + 1) * d < c
    · rw [sm_stop hs]
      simp only
      have hlt : a < (a / b + 1) * b := by rw [Int.add_mul, Int.one_mul]; omega
      refine ⟨by rw [Int.mul_one]; exact hlt, ?_, by simp, ?_⟩
      · rw [Int.mul_one]
        rcases hs with e | e
        · have hl := h.lt
          rw [e, Int.mul_zero] at hl ⊢
          exact Int.pos_of_mul_pos_left hl (by omega)
        · exact e
      · intro x y hy h1 _
        refine ⟨hy, ?_⟩
        -- w b ≤ a, a ≤ a y < x b
        have m1 := Int.mul_le_mul_of_nonneg_left hy ha
        have h2 : a / b * b < x * b := by omega
        have := Int.lt_of_mul_lt_mul_right h2 (by omega)
        omega
    · rw [sm_go hs]
      obtain ⟨hi, hcd, _, _⟩ := sm_inner h (fun e => hs (.inr e))
      obtain ⟨i1, i2, i3, i4⟩ := sm_law k _ _ _ _ hi
      obtain ⟨j1, j2, j3, j4⟩ := sm_bd k _ _ _ _ hi
      have hnl : ¬ (a / b + 1) * d < c := fun e => hs (.inr e)
      simp only
      generalize (smF k d (c - a / b * d) b (a - a / b * b)).1 = q at *
      generalize (smF k d (c - a / b * d) b (a - a / b * b)).2 = p at *
      generalize a / b = w at *
      refine ⟨?_, ?_, ?_, ?_⟩
      · have e1 : (w * q + p) * b = w * b * q + b * p := by grind
        have e2 : q * (a - w * b) = a * q - w * b * q := by grind
        rw [e1]
        rw [e2] at i2
        omega
      · have e1 : (w * q + p) * d = w * d * q + d * p := by grind
        have e2 : q * (c - w * d) = c * q - w * d * q := by grind
        rw [e1]
        rw [e2] at i1
        omega
      · rw [Int.gcd_mul_right_add_left, Int.gcd_comm, i3]
      · intro x y hy h1 h2
        -- x = w y + r
        have hd0 := h.d0
        have e1 : (w + 1) * d = w * d + d := by rw [Int.add_mul, Int.one_mul]
        have hr : 1 ≤ x - w * y := by
          have e3 : (x - w * y) * b = x * b - w * b * y := by grind
          have e4 : (a - w * b) * y = a * y - w * b * y := by grind
          have m1 := Int.mul_nonneg w2 (show 0 ≤ y by omega)
          have h5 : 0 < (x - w * y) * b := by omega
          have := Int.pos_of_mul_pos_left h5 (by omega)
          omega
        obtain ⟨k1, k2⟩ := i4 y (x - w * y) hr (by
          have e3 : d * (x - w * y) = x * d - w * d * y := by grind
          have e4 : y * (c - w * d) = c * y - w * d * y := by grind
          rw [e3, e4]; omega) (by
          have e3 : b * (x - w * y) = x * b - w * b * y := by grind
          have e4 : y * (a - w * b) = a * y - w * b * y := by grind
          rw [e3, e4]; omega)
        refine ⟨k2, ?_⟩
        have := Int.mul_le_mul_of_nonneg_left k2 w0
        omega
end Go.Proofs.Ytlmmpeeacjbobaa
namespace Go.Proofs.Ytlmmpeeacjbobaa
open Go.RowKit

theorem mid_lt {a b c d p q : Int} (hb : 1 ≤ b) (hd : 1 ≤ d) (hq : 1 ≤ q) (h1 : a * q < p * b) (h2 : p * d < c * q) : a * d < c * b := by
  have m1 : a * q * d ≤ p * b * d := Int.mul_le_mul_of_nonneg_right (by omega) (by omega)
  have m2 : p * d * b < c * q * b := Int.mul_lt_mul_of_pos_right h2 (by omega)
  have e : a * d * q < c * b * q := by
    have e1 : a * q * d = a * d * q := by rw [Int.mul_assoc, Int.mul_comm q d, ← Int.mul_assoc]
    have e2 : p * b * d = p * d * b := by rw [Int.mul_assoc, Int.mul_comm b d, ← Int.mul_assoc]
    have e3 : c * q * b = c * b * q := by rw [Int.mul_assoc, Int.mul_comm q b, ← Int.mul_assoc]
    omega
  exact Int.lt_of_mul_lt_mul_right e (by omega)
/-- All that the loop's body computes is small, and it finds nothing. -/
theorem fl_all {a b c d y : Int} (a0 : 0 ≤ a) (a1 : a ≤ 1000000000) (b0 : 1 ≤ b) (c0 : 0 ≤ c) (c1 : c ≤ 1000000000) (d0 : 1 ≤ d) (d1 : d ≤ 1000000000) (hl : a * d < c * b) (y1 : 1 ≤ y) (y2 : y < 200) (hy : c * y ≤ (a * y / b + 1) * d) :
    (0 ≤ a / b ∧ a / b ≤ 1000000000) ∧ (0 ≤ a / b * y ∧ a / b * y ≤ 200000000000) ∧ (0 ≤ a / b * b ∧ a / b * b ≤ a) ∧ (0 ≤ (a - a / b * b) * y ∧ (a - a / b * b) * y ≤ 200000000000) ∧
      ((a - a / b * b) * y).tdiv b = (a - a / b * b) * y / b ∧ (0 ≤ (a - a / b * b) * y / b ∧ (a - a / b * b) * y / b ≤ 200000000000) ∧
      (0 ≤ (a / b * y + (a - a / b * b) * y / b + 1) * d ∧ (a / b * y + (a - a / b * b) * y / b + 1) * d ≤ 300000000000) ∧ (0 ≤ c * y ∧ c * y ≤ 200000000000) ∧ ¬ ((a / b * y + (a - a / b * b) * y / b + 1) * d < c * y) := by
  obtain ⟨w0, w1, w2, w3⟩ := sm_floor a0 b0
  have z1 : 0 ≤ a / b * b := Int.mul_nonneg w0 (by omega)
  have z2 : 0 ≤ a / b * y := Int.mul_nonneg w0 (by omega)
  have z3 : a / b * y ≤ 1000000000 * 200 := Int.mul_le_mul (by omega) (by omega) (by omega) (by omega)
  have z4 : 0 ≤ (a - a / b * b) * y := Int.mul_nonneg w2 (by omega)
  have z5 : (a - a / b * b) * y ≤ 1000000000 * 200 := Int.mul_le_mul (by omega) (by omega) (by omega) (by omega)
  have z6 : 0 ≤ c * y := Int.mul_nonneg c0 (by omega)
  have z7 : c * y ≤ 1000000000 * 200 := Int.mul_le_mul (by omega) (by omega) (by omega) (by omega)
  have e0 : a * y / b = a / b * y + (a - a / b * b) * y / b := by
    have e1 : a * y = (a - a / b * b) * y + a / b * y * b := by
      rw [Int.sub_mul, Int.mul_assoc (a / b) y b, Int.mul_comm y b, ← Int.mul_assoc]
      omega
    rw [e1, Int.add_mul_ediv_right _ _ (by omega)]
    rw [Int.add_comm]
  have x0 : 0 ≤ (a - a / b * b) * y / b := Int.ediv_nonneg z4 (by omega)
  have x1 : (a - a / b * b) * y / b ≤ (a - a / b * b) * y := Int.ediv_le_self _ z4
  have f1 : a * y / b * d ≤ c * y := by
    have g1 : a * y / b * b ≤ a * y := Int.ediv_mul_le _ (by omega)
    have g2 : a * y / b * b * d ≤ a * y * d := Int.mul_le_mul_of_nonneg_right g1 (by omega)
    have g3 : a * d * y ≤ c * b * y := Int.mul_le_mul_of_nonneg_right (by omega) (by omega)
    have g4 : a * y / b * d * b ≤ c * y * b := by
      have e1 : a * y / b * b * d = a * y / b * d * b := by rw [Int.mul_assoc, Int.mul_comm b d, ← Int.mul_assoc]
      have e2 : a * y * d = a * d * y := by rw [Int.mul_assoc, Int.mul_comm y d, ← Int.mul_assoc]
      have e3 : c * b * y = c * y * b := by rw [Int.mul_assoc, Int.mul_comm b y, ← Int.mul_assoc]
      omega
    exact Int.le_of_mul_le_mul_right g4 (by omega)
  rw [e0] at hy f1
  have s1 := Int.add_mul (a / b * y + (a - a / b * b) * y / b) 1 d
  rw [Int.one_mul] at s1
  have s2 : 0 ≤ (a / b * y + (a - a / b * b) * y / b + 1) * d := Int.mul_nonneg (by omega) (by omega)
  exact ⟨⟨w0, by omega⟩, ⟨z2, by omega⟩, ⟨z1, by omega⟩, ⟨z4, by omega⟩, Int.tdiv_eq_ediv_of_nonneg z4, ⟨x0, by omega⟩, ⟨s2, by omega⟩, ⟨z6, by omega⟩, by omega⟩
end Go.Proofs.Ytlmmpeeacjbobaa
namespace Go.Proofs.Ytlmmpeeacjbobaa
open Go.RowKit

theorem mulw' {a b : Int} (a1 : 0 ≤ a) (a2 : a ≤ 1000000001) (b1 : 0 ≤ b) (b2 : b ≤ 1000000000) : 0 ≤ a * b ∧ a * b ≤ 1000000001000000000 :=
  ⟨Int.mul_nonneg a1 b1, Int.mul_le_mul a2 b2 b1 (by omega)⟩
set_option maxHeartbeats 2000000 in
theorem simplest_any (k : Nat) : ∀ (a b c d : Int), SmI k a b c d → ∀ w : World, Calls Try.prog 84 #[.int .i64 a, .int .i64 b, .int .i64 c, .int .i64 d] w (Ret w (.tuple #[.int .i64 (smF k a b c d).1, .int .i64 (smF k a b c d).2])) := by
  induction k with
  | zero => exact fun a b c d h w => (sm_fuel h).elim
  | succ k ih =>
    intro a b c d h w
    obtain ⟨w0, w1, w2, w3⟩ := sm_floor h.a0 h.b0
    obtain ⟨a0, a1, b0, b1, c0, c1, d0, d1, -, -⟩ := id h
    have kF := fun w => floorDiv_any a b (by omega) (by omega) b0 (by omega) w
    obtain ⟨m1, m2⟩ := mulw' (a := a / b + 1) (b := d) (by omega) (by omega) (by omega) (by omega)
    by_cases hs : d = 0 ∨ (a / b + 1) * d < c
    · rw [sm_stop hs]
      clear ih h
      by_cases hd : d = 0
      · subst hd
        clear hs
        generalize a / b = q at *
        go_enter Try.func84, Try.ntmps84
        go_wp2_with fail
        apply Calls.mono
        · with_reducible exact kF _
        rintro _ w1 ⟨rfl, hb_w1⟩
        obtain ⟨hc_w1, hf_w1, hs_w1⟩ := bcell hb_w1
        try simp at hs_w1
        go_wp2
        go_ret2
        refine ⟨by first | rfl | (simp), ?_⟩
        repeat' (first | (with_reducible exact Below.refl _ _) | (with_reducible assumption) | (with_reducible refine Below.alloc ?_ ?_ _) | (with_reducible refine Below.drew ?_) | (with_reducible refine bdrewN ?_ _) | (with_reducible refine Below.setCell ?_ ?_ _) | (with_reducible refine bthen ?_ (by assumption) ?_) | go_size)
      · have hl : (a / b + 1) * d < c := by
          rcases hs with e | e
          · exact absurd e hd
          · exact e
        have hd' : (d == 0) = false := by simp [hd]
        clear hs hd
        generalize a / b = q at *
        go_enter Try.func84, Try.ntmps84
        go_wp2_with fail
        apply Calls.mono
        · with_reducible exact kF _
        rintro _ w1 ⟨rfl, hb_w1⟩
        obtain ⟨hc_w1, hf_w1, hs_w1⟩ := bcell hb_w1
        try simp at hs_w1
        go_wp2
        go_ret2
        refine ⟨by first | rfl | (simp), ?_⟩
        repeat' (first | (with_reducible exact Below.refl _ _) | (with_reducible assumption) | (with_reducible refine Below.alloc ?_ ?_ _) | (with_reducible refine Below.drew ?_) | (with_reducible refine bdrewN ?_ _) | (with_reducible refine Below.setCell ?_ ?_ _) | (with_reducible refine bthen ?_ (by assumption) ?_) | go_size)
    · have hi := sm_inner h (fun e => hs (.inr e))
      obtain ⟨hI, x1, x2, x3⟩ := hi
      obtain ⟨j1, j2, j3, j4⟩ := sm_bd k _ _ _ _ hI
      obtain ⟨k1, k2, k3, k4⟩ := sm_bd (k + 1) _ _ _ _ h
      have kR := fun w => ih _ _ _ _ hI w
      have hd : d ≠ 0 := fun e => hs (.inl e)
      have hl : ¬ (a / b + 1) * d < c := fun e => hs (.inr e)
      have hd' : (d == 0) = false := by simp [hd]
      rw [sm_go hs] at k1 k2 k3 k4 ⊢
      clear ih h hs hI hd
      simp only at k1 k2 k3 k4
      generalize (smF k d (c - a / b * d) b (a - a / b * b)).1 = q at *
      generalize (smF k d (c - a / b * d) b (a - a / b * b)).2 = p at *
      have n1 : 0 ≤ a / b * q := Int.mul_nonneg w0 (by omega)
      have n2 : 0 ≤ a / b * b := Int.mul_nonneg w0 (by omega)
      generalize a / b = f at *
      have n3 : f * q ≤ 2000000000 := by omega
      go_enter Try.func84, Try.ntmps84
      go_wp2_with fail
      apply Calls.mono
      · with_reducible exact kF _
      rintro _ w1 ⟨rfl, hb_w1⟩
      obtain ⟨hc_w1, hf_w1, hs_w1⟩ := bcell hb_w1
      try simp at hs_w1
      go_wp2_with fail
      apply Calls.mono
      · with_reducible exact kR _
      rintro _ w2 ⟨rfl, hb_w2⟩
      obtain ⟨hc_w2, hf_w2, hs_w2⟩ := bcell hb_w2
      try simp at hs_w2
      go_wp2
      go_ret2
      refine ⟨by first | rfl | (simp), ?_⟩
      repeat' (first | (with_reducible exact Below.refl _ _) | (with_reducible assumption) | (with_reducible refine Below.alloc ?_ ?_ _) | (with_reducible refine Below.drew ?_) | (with_reducible refine bdrewN ?_ _) | (with_reducible refine Below.setCell ?_ ?_ _) | (with_reducible refine bthen ?_ (by assumption) ?_) | go_size)
set_option maxHeartbeats 2000000 in
theorem l05Simple_any (k : Nat) : ∀ (a b c d : Int), SmI k a b c d → ∀ w : World, Calls Try.prog 85 #[.int .i64 a, .int .i64 b, .int .i64 c, .int .i64 d] w (Ret w (.agg #[.int .i64 (smF k a b c d).1, .int .i64 (smF k a b c d).2])) := by
  induction k with
  | zero => exact fun a b c d h w => (sm_fuel h).elim
  | succ k ih =>
    intro a b c d h w
    obtain ⟨w0, w1, w2, w3⟩ := sm_floor h.a0 h.b0
    obtain ⟨a0, a1, b0, b1, c0, c1, d0, d1, -, -⟩ := id h
    have kF := fun w => l02Floor_any a b (by omega) (by omega) b0 (by omega) w
    obtain ⟨m1, m2⟩ := mulw' (a := a / b + 1) (b := d) (by omega) (by omega) (by omega) (by omega)
    by_cases hs : d = 0 ∨ (a / b + 1) * d < c
    · rw [sm_stop hs]
      clear ih h
      by_cases hd : d = 0
      · subst hd
        clear hs
        generalize a / b = q at *
        go_enter Try.func85, Try.ntmps85
        go_wp2_with fail
        apply Calls.mono
        · with_reducible exact kF _
        rintro _ w1 ⟨rfl, hb_w1⟩
        obtain ⟨hc_w1, hf_w1, hs_w1⟩ := bcell hb_w1
        try simp at hs_w1
        have hz_w1_w0 : w.heap.size < w1.heap.size := by omega
        have hy_w1_w0 : w.heap.size ≤ w1.heap.size := by omega
        have hx_w1_w0 : ∀ n : Nat, w.heap.size < w1.heap.size + n := by intro n; omega
        have hv_w1_w0 : ∀ n : Nat, w.heap.size ≤ w1.heap.size + n := by intro n; omega
        go_wp2
        refine bodyPost_ret (by simp [results, Try.results85, go_sem, *]; try rfl) rfl ?_
        refine ⟨by first | rfl | simp, ?_⟩
        repeat' (first | (with_reducible exact Below.refl _ _) | (with_reducible assumption) | (with_reducible refine Below.alloc ?_ ?_ _) | (with_reducible refine Below.drew ?_) | (with_reducible refine bdrewN ?_ _) | (with_reducible refine Below.setCell ?_ ?_ _) | (with_reducible refine bthen ?_ (by assumption) ?_) | go_size)
      · have hl : (a / b + 1) * d < c := by
          rcases hs with e | e
          · exact absurd e hd
          · exact e
        have hd' : (d == 0) = false := by simp [hd]
        clear hs hd
        generalize a / b = q at *
        go_enter Try.func85, Try.ntmps85
        go_wp2_with fail
        apply Calls.mono
        · with_reducible exact kF _
        rintro _ w1 ⟨rfl, hb_w1⟩
        obtain ⟨hc_w1, hf_w1, hs_w1⟩ := bcell hb_w1
        try simp at hs_w1
        have hz_w1_w0 : w.heap.size < w1.heap.size := by omega
        have hy_w1_w0 : w.heap.size ≤ w1.heap.size := by omega
        have hx_w1_w0 : ∀ n : Nat, w.heap.size < w1.heap.size + n := by intro n; omega
        have hv_w1_w0 : ∀ n : Nat, w.heap.size ≤ w1.heap.size + n := by intro n; omega
        go_wp2
        refine bodyPost_ret (by simp [results, Try.results85, go_sem, *]; try rfl) rfl ?_
        refine ⟨by first | rfl | simp, ?_⟩
        repeat' (first | (with_reducible exact Below.refl _ _) | (with_reducible assumption) | (with_reducible refine Below.alloc ?_ ?_ _) | (with_reducible refine Below.drew ?_) | (with_reducible refine bdrewN ?_ _) | (with_reducible refine Below.setCell ?_ ?_ _) | (with_reducible refine bthen ?_ (by assumption) ?_) | go_size)
    · have hi := sm_inner h (fun e => hs (.inr e))
      obtain ⟨hI, x1, x2, x3⟩ := hi
      obtain ⟨j1, j2, j3, j4⟩ := sm_bd k _ _ _ _ hI
      obtain ⟨k1, k2, k3, k4⟩ := sm_bd (k + 1) _ _ _ _ h
      have kR := fun w => ih _ _ _ _ hI w
      have hd : d ≠ 0 := fun e => hs (.inl e)
      have hl : ¬ (a / b + 1) * d < c := fun e => hs (.inr e)
      have hd' : (d == 0) = false := by simp [hd]
      rw [sm_go hs] at k1 k2 k3 k4 ⊢
      clear ih h hs hI hd
      simp only at k1 k2 k3 k4
      generalize (smF k d (c - a / b * d) b (a - a / b * b)).1 = q at *
      generalize (smF k d (c - a / b * d) b (a - a / b * b)).2 = p at *
      have n1 : 0 ≤ a / b * q := Int.mul_nonneg w0 (by omega)
      have n2 : 0 ≤ a / b * b := Int.mul_nonneg w0 (by omega)
      generalize a / b = f at *
      have n3 : f * q ≤ 2000000000 := by omega
      go_enter Try.func85, Try.ntmps85
      go_wp2_with fail
      apply Calls.mono
      · with_reducible exact kF _
      rintro _ w1 ⟨rfl, hb_w1⟩
      obtain ⟨hc_w1, hf_w1, hs_w1⟩ := bcell hb_w1
      try simp at hs_w1
      have hz_w1_w0 : w.heap.size < w1.heap.size := by omega
      have hy_w1_w0 : w.heap.size ≤ w1.heap.size := by omega
      have hx_w1_w0 : ∀ n : Nat, w.heap.size < w1.heap.size + n := by intro n; omega
      have hv_w1_w0 : ∀ n : Nat, w.heap.size ≤ w1.heap.size + n := by intro n; omega
      go_wp2_with fail
      apply Calls.mono
      · with_reducible exact kR _
      rintro _ w2 ⟨rfl, hb_w2⟩
      obtain ⟨hc_w2, hf_w2, hs_w2⟩ := bcell hb_w2
      try simp at hs_w2
      have hz_w2_w0 : w.heap.size < w2.heap.size := by omega
      have hy_w2_w0 : w.heap.size ≤ w2.heap.size := by omega
      have hx_w2_w0 : ∀ n : Nat, w.heap.size < w2.heap.size + n := by intro n; omega
      have hv_w2_w0 : ∀ n : Nat, w.heap.size ≤ w2.heap.size + n := by intro n; omega
      have zC : w.heap.size ≠ w2.heap.size := by omega
      have zD : w2.heap.size ≠ w.heap.size := by omega
      go_wp2
      refine bodyPost_ret (by simp [results, Try.results85, go_sem, *]; try rfl) rfl ?_
      refine ⟨by first | rfl | simp, ?_⟩
      repeat' (first | (with_reducible exact Below.refl _ _) | (with_reducible assumption) | (with_reducible refine Below.alloc ?_ ?_ _) | (with_reducible refine Below.drew ?_) | (with_reducible refine bdrewN ?_ _) | (with_reducible refine Below.setCell ?_ ?_ _) | (with_reducible refine bthen ?_ (by assumption) ?_) | go_size)
/-- SimplestBetween. -/
def sbM (a b c d : Int) : Int × Int × Int :=
  if okF a b && okF c d then
    (if 0 ≤ a ∧ 0 ≤ c then (if a * d < c * b then (if okF (smF (b + d).toNat a b c d).1 (smF (b + d).toNat a b c d).2 then ((smF (b + d).toNat a b c d).1, (smF (b + d).toNat a b c d).2, 0) else (0, 0, 5)) else (0, 0, 6)) else (0, 0, 2))
  else (0, 0, 1)
theorem sb_inv {a b c d : Int} (h1 : okF a b = true) (h2 : okF c d = true) (a0 : 0 ≤ a) (c0 : 0 ≤ c) (h : a * d < c * b) : SmI (b + d).toNat a b c d := by
  obtain ⟨x1, x2, x3, x4⟩ := okF_bd h1
  obtain ⟨y1, y2, y3, y4⟩ := okF_bd h2
  exact ⟨a0, x4, x1, x2, c0, y4, by omega, y2, h, by omega⟩
theorem sb_one {a b c d : Int} (h : (okF a b && okF c d) = false) : sbM a b c d = (0, 0, 1) := by unfold sbM; rw [h]; rfl
theorem sb_two {a b c d : Int} (h1 : okF a b = true) (h2 : okF c d = true) (h : ¬ (0 ≤ a ∧ 0 ≤ c)) : sbM a b c d = (0, 0, 2) := by unfold sbM; rw [h1, h2, if_neg h]; rfl
theorem sb_six {a b c d : Int} (h1 : okF a b = true) (h2 : okF c d = true) (a0 : 0 ≤ a) (c0 : 0 ≤ c) (h : ¬ a * d < c * b) : sbM a b c d = (0, 0, 6) := by unfold sbM; rw [h1, h2, if_pos (show (true && true) = true from rfl), if_pos ⟨a0, c0⟩, if_neg h]
theorem sb_go {a b c d : Int} (h1 : okF a b = true) (h2 : okF c d = true) (a0 : 0 ≤ a) (c0 : 0 ≤ c) (h : a * d < c * b) : sbM a b c d = if okF (smF (b + d).toNat a b c d).1 (smF (b + d).toNat a b c d).2 then ((smF (b + d).toNat a b c d).1, (smF (b + d).toNat a b c d).2, 0) else (0, 0, 5) := by
  unfold sbM; rw [h1, h2, if_pos (show (true && true) = true from rfl), if_pos ⟨a0, c0⟩, if_pos h]
/-- What FnSimplest asks of the fraction. -/
theorem sb_law {a b c d : Int} (h : (sbM a b c d).2.2 = 0) : okF a b = true ∧ okF c d = true ∧ (0 ≤ a ∧ 0 ≤ c) ∧ okF (sbM a b c d).1 (sbM a b c d).2.1 = true ∧ (1 ≤ (sbM a b c d).1 ∧ 1 ≤ (sbM a b c d).2.1) ∧
    a * (sbM a b c d).2.1 < (sbM a b c d).1 * b ∧ (sbM a b c d).1 * d < c * (sbM a b c d).2.1 ∧ ∀ y : Int, 1 ≤ y → y < (sbM a b c d).2.1 → c * y ≤ (a * y / b + 1) * d := by
  cases h0 : (okF a b && okF c d)
  · rw [sb_one h0] at h; simp at h
  · rw [Bool.and_eq_true] at h0
    obtain ⟨h1, h2⟩ := h0
    by_cases hp : 0 ≤ a ∧ 0 ≤ c
    · obtain ⟨a0, c0⟩ := hp
      by_cases hl : a * d < c * b
      · have hi := sb_inv h1 h2 a0 c0 hl
        have e := sb_go h1 h2 a0 c0 hl
        cases hk : okF (smF (b + d).toNat a b c d).1 (smF (b + d).toNat a b c d).2
        · rw [e, hk] at h; simp at h
        · rw [hk, if_pos rfl] at e
          rw [e]
          obtain ⟨k1, k2, k3, k4⟩ := sm_bd _ _ _ _ _ hi
          obtain ⟨l1, l2, l3, l4⟩ := sm_law _ _ _ _ _ hi
          simp only
          refine ⟨h1, h2, ⟨a0, c0⟩, hk, ⟨k1, k3⟩, l1, l2, fun y hy hlt => ?_⟩
          have hb := hi.b0
          have ab := Int.lt_ediv_add_one_mul_self (a * y) (show 0 < b by omega)
          rcases Int.lt_or_le ((a * y / b + 1) * d) (c * y) with g | g
          · obtain ⟨z1, _⟩ := l4 (a * y / b + 1) y hy ab g
            omega
          · exact g
      · rw [sb_six h1 h2 a0 c0 hl] at h; simp at h
    · rw [sb_two h1 h2 hp] at h; simp at h
set_option maxHeartbeats 2000000 in
theorem simplestI_any (a b c d : Int) (w : World) : Calls Try.prog 30 #[.agg #[.int .i64 a, .int .i64 b], .agg #[.int .i64 c, .int .i64 d]] w (Ret w (.tuple #[.agg #[.int .i64 (sbM a b c d).1, .int .i64 (sbM a b c d).2.1], .int .i64 (sbM a b c d).2.2])) := by
  cases h1 : okF a b
  · rw [sb_one (by rw [h1]; rfl)]
    have H1 := Lib.hid h1
    clear h1
    go_enter Try.func30, Try.ntmps30
    go_wp2_with fail
    apply Calls.mono
    · with_reducible exact validFraction_any _ _ false H1.out _
    rintro _ w1 ⟨rfl, hb_w1⟩
    obtain ⟨hc_w1, hf_w1, hs_w1⟩ := bcell hb_w1
    try simp at hs_w1
    have hz_w1_w0 : w.heap.size < w1.heap.size := by omega
    have hy_w1_w0 : w.heap.size ≤ w1.heap.size := by omega
    have hx_w1_w0 : ∀ n : Nat, w.heap.size < w1.heap.size + n := by intro n; omega
    have hv_w1_w0 : ∀ n : Nat, w.heap.size ≤ w1.heap.size + n := by intro n; omega
    have hz_w1_w1 : w.heap.size + 1 < w1.heap.size := by omega
    have hy_w1_w1 : w.heap.size + 1 ≤ w1.heap.size := by omega
    have hx_w1_w1 : ∀ n : Nat, w.heap.size + 1 < w1.heap.size + n := by intro n; omega
    have hv_w1_w1 : ∀ n : Nat, w.heap.size + 1 ≤ w1.heap.size + n := by intro n; omega
    have hz_w1_w2 : w.heap.size + 2 < w1.heap.size := by omega
    have hy_w1_w2 : w.heap.size + 2 ≤ w1.heap.size := by omega
    have hx_w1_w2 : ∀ n : Nat, w.heap.size + 2 < w1.heap.size + n := by intro n; omega
    have hv_w1_w2 : ∀ n : Nat, w.heap.size + 2 ≤ w1.heap.size + n := by intro n; omega
    go_wp2
    refine bodyPost_ret (by simp [results, Try.results30, go_sem, *]; try rfl) rfl ?_
    refine ⟨by first | rfl | simp, ?_⟩
    repeat' (first | (with_reducible exact Below.refl _ _) | (with_reducible assumption) | (with_reducible refine Below.alloc ?_ ?_ _) | (with_reducible refine Below.drew ?_) | (with_reducible refine bdrewN ?_ _) | (with_reducible refine Below.setCell ?_ ?_ _) | (with_reducible refine bthen ?_ (by assumption) ?_) | go_size)
  · have H1 := Lib.hid h1
    cases h2 : okF c d
    · rw [sb_one (by rw [h1, h2]; rfl)]
      have H2 := Lib.hid h2
      clear h1 h2
      go_enter Try.func30, Try.ntmps30
      go_wp2_with fail
      apply Calls.mono
      · with_reducible exact validFraction_any _ _ true H1.out _
      rintro _ w1 ⟨rfl, hb_w1⟩
      obtain ⟨hc_w1, hf_w1, hs_w1⟩ := bcell hb_w1
      try simp at hs_w1
      have hz_w1_w0 : w.heap.size < w1.heap.size := by omega
      have hy_w1_w0 : w.heap.size ≤ w1.heap.size := by omega
      have hx_w1_w0 : ∀ n : Nat, w.heap.size < w1.heap.size + n := by intro n; omega
      have hv_w1_w0 : ∀ n : Nat, w.heap.size ≤ w1.heap.size + n := by intro n; omega
      have hz_w1_w1 : w.heap.size + 1 < w1.heap.size := by omega
      have hy_w1_w1 : w.heap.size + 1 ≤ w1.heap.size := by omega
      have hx_w1_w1 : ∀ n : Nat, w.heap.size + 1 < w1.heap.size + n := by intro n; omega
      have hv_w1_w1 : ∀ n : Nat, w.heap.size + 1 ≤ w1.heap.size + n := by intro n; omega
      have hz_w1_w2 : w.heap.size + 2 < w1.heap.size := by omega
      have hy_w1_w2 : w.heap.size + 2 ≤ w1.heap.size := by omega
      have hx_w1_w2 : ∀ n : Nat, w.heap.size + 2 < w1.heap.size + n := by intro n; omega
      have hv_w1_w2 : ∀ n : Nat, w.heap.size + 2 ≤ w1.heap.size + n := by intro n; omega
      go_wp2_with fail
      apply Calls.mono
      · with_reducible exact validFraction_any _ _ false H2.out _
      rintro _ w2 ⟨rfl, hb_w2⟩
      obtain ⟨hc_w2, hf_w2, hs_w2⟩ := bcell hb_w2
      try simp at hs_w2
      have hz_w2_w0 : w.heap.size < w2.heap.size := by omega
      have hy_w2_w0 : w.heap.size ≤ w2.heap.size := by omega
      have hx_w2_w0 : ∀ n : Nat, w.heap.size < w2.heap.size + n := by intro n; omega
      have hv_w2_w0 : ∀ n : Nat, w.heap.size ≤ w2.heap.size + n := by intro n; omega
      have hz_w2_w1 : w.heap.size + 1 < w2.heap.size := by omega
      have hy_w2_w1 : w.heap.size + 1 ≤ w2.heap.size := by omega
      have hx_w2_w1 : ∀ n : Nat, w.heap.size + 1 < w2.heap.size + n := by intro n; omega
      have hv_w2_w1 : ∀ n : Nat, w.heap.size + 1 ≤ w2.heap.size + n := by intro n; omega
      have hz_w2_w2 : w.heap.size + 2 < w2.heap.size := by omega
      have hy_w2_w2 : w.heap.size + 2 ≤ w2.heap.size := by omega
      have hx_w2_w2 : ∀ n : Nat, w.heap.size + 2 < w2.heap.size + n := by intro n; omega
      have hv_w2_w2 : ∀ n : Nat, w.heap.size + 2 ≤ w2.heap.size + n := by intro n; omega
      go_wp2
      refine bodyPost_ret (by simp [results, Try.results30, go_sem, *]; try rfl) rfl ?_
      refine ⟨by first | rfl | simp, ?_⟩
      repeat' (first | (with_reducible exact Below.refl _ _) | (with_reducible assumption) | (with_reducible refine Below.alloc ?_ ?_ _) | (with_reducible refine Below.drew ?_) | (with_reducible refine bdrewN ?_ _) | (with_reducible refine Below.setCell ?_ ?_ _) | (with_reducible refine bthen ?_ (by assumption) ?_) | go_size)
    · have H2 := Lib.hid h2
      obtain ⟨x1, x2, x3, x4⟩ := okF_bd h1
      obtain ⟨y1, y2, y3, y4⟩ := okF_bd h2
      by_cases ha : a < 0
      · rw [sb_two h1 h2 (by omega)]
        clear h1 h2
        go_enter Try.func30, Try.ntmps30
        go_wp2_with fail
        apply Calls.mono
        · with_reducible exact validFraction_any _ _ true H1.out _
        rintro _ w1 ⟨rfl, hb_w1⟩
        obtain ⟨hc_w1, hf_w1, hs_w1⟩ := bcell hb_w1
        try simp at hs_w1
        have hz_w1_w0 : w.heap.size < w1.heap.size := by omega
        have hy_w1_w0 : w.heap.size ≤ w1.heap.size := by omega
        have hx_w1_w0 : ∀ n : Nat, w.heap.size < w1.heap.size + n := by intro n; omega
        have hv_w1_w0 : ∀ n : Nat, w.heap.size ≤ w1.heap.size + n := by intro n; omega
        have hz_w1_w1 : w.heap.size + 1 < w1.heap.size := by omega
        have hy_w1_w1 : w.heap.size + 1 ≤ w1.heap.size := by omega
        have hx_w1_w1 : ∀ n : Nat, w.heap.size + 1 < w1.heap.size + n := by intro n; omega
        have hv_w1_w1 : ∀ n : Nat, w.heap.size + 1 ≤ w1.heap.size + n := by intro n; omega
        have hz_w1_w2 : w.heap.size + 2 < w1.heap.size := by omega
        have hy_w1_w2 : w.heap.size + 2 ≤ w1.heap.size := by omega
        have hx_w1_w2 : ∀ n : Nat, w.heap.size + 2 < w1.heap.size + n := by intro n; omega
        have hv_w1_w2 : ∀ n : Nat, w.heap.size + 2 ≤ w1.heap.size + n := by intro n; omega
        go_wp2_with fail
        apply Calls.mono
        · with_reducible exact validFraction_any _ _ true H2.out _
        rintro _ w2 ⟨rfl, hb_w2⟩
        obtain ⟨hc_w2, hf_w2, hs_w2⟩ := bcell hb_w2
        try simp at hs_w2
        have hz_w2_w0 : w.heap.size < w2.heap.size := by omega
        have hy_w2_w0 : w.heap.size ≤ w2.heap.size := by omega
        have hx_w2_w0 : ∀ n : Nat, w.heap.size < w2.heap.size + n := by intro n; omega
        have hv_w2_w0 : ∀ n : Nat, w.heap.size ≤ w2.heap.size + n := by intro n; omega
        have hz_w2_w1 : w.heap.size + 1 < w2.heap.size := by omega
        have hy_w2_w1 : w.heap.size + 1 ≤ w2.heap.size := by omega
        have hx_w2_w1 : ∀ n : Nat, w.heap.size + 1 < w2.heap.size + n := by intro n; omega
        have hv_w2_w1 : ∀ n : Nat, w.heap.size + 1 ≤ w2.heap.size + n := by intro n; omega
        have hz_w2_w2 : w.heap.size + 2 < w2.heap.size := by omega
        have hy_w2_w2 : w.heap.size + 2 ≤ w2.heap.size := by omega
        have hx_w2_w2 : ∀ n : Nat, w.heap.size + 2 < w2.heap.size + n := by intro n; omega
        have hv_w2_w2 : ∀ n : Nat, w.heap.size + 2 ≤ w2.heap.size + n := by intro n; omega
        go_wp2
        refine bodyPost_ret (by simp [results, Try.results30, go_sem, *]; try rfl) rfl ?_
        refine ⟨by first | rfl | simp, ?_⟩
        repeat' (first | (with_reducible exact Below.refl _ _) | (with_reducible assumption) | (with_reducible refine Below.alloc ?_ ?_ _) | (with_reducible refine Below.drew ?_) | (with_reducible refine bdrewN ?_ _) | (with_reducible refine Below.setCell ?_ ?_ _) | (with_reducible refine bthen ?_ (by assumption) ?_) | go_size)
      · by_cases hc : c < 0
        · rw [sb_two h1 h2 (by omega)]
          clear h1 h2
          go_enter Try.func30, Try.ntmps30
          go_wp2_with fail
          apply Calls.mono
          · with_reducible exact validFraction_any _ _ true H1.out _
          rintro _ w1 ⟨rfl, hb_w1⟩
          obtain ⟨hc_w1, hf_w1, hs_w1⟩ := bcell hb_w1
          try simp at hs_w1
          have hz_w1_w0 : w.heap.size < w1.heap.size := by omega
          have hy_w1_w0 : w.heap.size ≤ w1.heap.size := by omega
          have hx_w1_w0 : ∀ n : Nat, w.heap.size < w1.heap.size + n := by intro n; omega
          have hv_w1_w0 : ∀ n : Nat, w.heap.size ≤ w1.heap.size + n := by intro n; omega
          have hz_w1_w1 : w.heap.size + 1 < w1.heap.size := by omega
          have hy_w1_w1 : w.heap.size + 1 ≤ w1.heap.size := by omega
          have hx_w1_w1 : ∀ n : Nat, w.heap.size + 1 < w1.heap.size + n := by intro n; omega
          have hv_w1_w1 : ∀ n : Nat, w.heap.size + 1 ≤ w1.heap.size + n := by intro n; omega
          have hz_w1_w2 : w.heap.size + 2 < w1.heap.size := by omega
          have hy_w1_w2 : w.heap.size + 2 ≤ w1.heap.size := by omega
          have hx_w1_w2 : ∀ n : Nat, w.heap.size + 2 < w1.heap.size + n := by intro n; omega
          have hv_w1_w2 : ∀ n : Nat, w.heap.size + 2 ≤ w1.heap.size + n := by intro n; omega
          go_wp2_with fail
          apply Calls.mono
          · with_reducible exact validFraction_any _ _ true H2.out _
          rintro _ w2 ⟨rfl, hb_w2⟩
          obtain ⟨hc_w2, hf_w2, hs_w2⟩ := bcell hb_w2
          try simp at hs_w2
          have hz_w2_w0 : w.heap.size < w2.heap.size := by omega
          have hy_w2_w0 : w.heap.size ≤ w2.heap.size := by omega
          have hx_w2_w0 : ∀ n : Nat, w.heap.size < w2.heap.size + n := by intro n; omega
          have hv_w2_w0 : ∀ n : Nat, w.heap.size ≤ w2.heap.size + n := by intro n; omega
          have hz_w2_w1 : w.heap.size + 1 < w2.heap.size := by omega
          have hy_w2_w1 : w.heap.size + 1 ≤ w2.heap.size := by omega
          have hx_w2_w1 : ∀ n : Nat, w.heap.size + 1 < w2.heap.size + n := by intro n; omega
          have hv_w2_w1 : ∀ n : Nat, w.heap.size + 1 ≤ w2.heap.size + n := by intro n; omega
          have hz_w2_w2 : w.heap.size + 2 < w2.heap.size := by omega
          have hy_w2_w2 : w.heap.size + 2 ≤ w2.heap.size := by omega
          have hx_w2_w2 : ∀ n : Nat, w.heap.size + 2 < w2.heap.size + n := by intro n; omega
          have hv_w2_w2 : ∀ n : Nat, w.heap.size + 2 ≤ w2.heap.size + n := by intro n; omega
          go_wp2
          refine bodyPost_ret (by simp [results, Try.results30, go_sem, *]; try rfl) rfl ?_
          refine ⟨by first | rfl | simp, ?_⟩
          repeat' (first | (with_reducible exact Below.refl _ _) | (with_reducible assumption) | (with_reducible refine Below.alloc ?_ ?_ _) | (with_reducible refine Below.drew ?_) | (with_reducible refine bdrewN ?_ _) | (with_reducible refine Below.setCell ?_ ?_ _) | (with_reducible refine bthen ?_ (by assumption) ?_) | go_size)
        · by_cases hl : a * d < c * b
          · have e := sb_go h1 h2 (by omega) (by omega) hl
            have hi := sb_inv h1 h2 (by omega) (by omega) hl
            obtain ⟨k1, k2, k3, k4⟩ := sm_bd _ _ _ _ _ hi
            have hg := (sm_law _ _ _ _ _ hi).2.2.1
            have kS := fun w => simplest_any _ a b c d hi w
            rw [e]
            generalize (smF (b + d).toNat a b c d).1 = P at *
            generalize (smF (b + d).toNat a b c d).2 = Q at *
            have kP := fun w => plainOf_any P Q (by omega) (by omega) (by omega) (by omega) (by omega) w
            rw [plain_low hg k3] at kP
            have hc1 : cmpF (a * d) (c * b) = -1 := by unfold cmpF; rw [if_pos hl]
            have kC := fun w => compareF_any a b c d h1 h2 w
            rw [hc1] at kC
            obtain ⟨M, hM⟩ : ∃ M, (if okF P Q = true then (P, Q, (0 : Int)) else (0, 0, 5)) = M := ⟨_, rfl⟩
            rw [hM] at kP ⊢
            clear h1 h2 e hi hg hl hc1 hM
            go_enter Try.func30, Try.ntmps30
            go_wp2_with fail
            apply Calls.mono
            · with_reducible exact validFraction_any _ _ true H1.out _
            rintro _ w1 ⟨rfl, hb_w1⟩
            obtain ⟨hc_w1, hf_w1, hs_w1⟩ := bcell hb_w1
            try simp at hs_w1
            have hz_w1_w0 : w.heap.size < w1.heap.size := by omega
            have hy_w1_w0 : w.heap.size ≤ w1.heap.size := by omega
            have hx_w1_w0 : ∀ n : Nat, w.heap.size < w1.heap.size + n := by intro n; omega
            have hv_w1_w0 : ∀ n : Nat, w.heap.size ≤ w1.heap.size + n := by intro n; omega
            have hz_w1_w1 : w.heap.size + 1 < w1.heap.size := by omega
            have hy_w1_w1 : w.heap.size + 1 ≤ w1.heap.size := by omega
            have hx_w1_w1 : ∀ n : Nat, w.heap.size + 1 < w1.heap.size + n := by intro n; omega
            have hv_w1_w1 : ∀ n : Nat, w.heap.size + 1 ≤ w1.heap.size + n := by intro n; omega
            have hz_w1_w2 : w.heap.size + 2 < w1.heap.size := by omega
            have hy_w1_w2 : w.heap.size + 2 ≤ w1.heap.size := by omega
            have hx_w1_w2 : ∀ n : Nat, w.heap.size + 2 < w1.heap.size + n := by intro n; omega
            have hv_w1_w2 : ∀ n : Nat, w.heap.size + 2 ≤ w1.heap.size + n := by intro n; omega
            go_wp2_with fail
            apply Calls.mono
            · with_reducible exact validFraction_any _ _ true H2.out _
            rintro _ w2 ⟨rfl, hb_w2⟩
            obtain ⟨hc_w2, hf_w2, hs_w2⟩ := bcell hb_w2
            try simp at hs_w2
            have hz_w2_w0 : w.heap.size < w2.heap.size := by omega
            have hy_w2_w0 : w.heap.size ≤ w2.heap.size := by omega
            have hx_w2_w0 : ∀ n : Nat, w.heap.size < w2.heap.size + n := by intro n; omega
            have hv_w2_w0 : ∀ n : Nat, w.heap.size ≤ w2.heap.size + n := by intro n; omega
            have hz_w2_w1 : w.heap.size + 1 < w2.heap.size := by omega
            have hy_w2_w1 : w.heap.size + 1 ≤ w2.heap.size := by omega
            have hx_w2_w1 : ∀ n : Nat, w.heap.size + 1 < w2.heap.size + n := by intro n; omega
            have hv_w2_w1 : ∀ n : Nat, w.heap.size + 1 ≤ w2.heap.size + n := by intro n; omega
            have hz_w2_w2 : w.heap.size + 2 < w2.heap.size := by omega
            have hy_w2_w2 : w.heap.size + 2 ≤ w2.heap.size := by omega
            have hx_w2_w2 : ∀ n : Nat, w.heap.size + 2 < w2.heap.size + n := by intro n; omega
            have hv_w2_w2 : ∀ n : Nat, w.heap.size + 2 ≤ w2.heap.size + n := by intro n; omega
            go_wp2_with fail
            apply Calls.mono
            · with_reducible exact kC _
            rintro _ w3 ⟨rfl, hb_w3⟩
            obtain ⟨hc_w3, hf_w3, hs_w3⟩ := bcell hb_w3
            try simp at hs_w3
            have hz_w3_w0 : w.heap.size < w3.heap.size := by omega
            have hy_w3_w0 : w.heap.size ≤ w3.heap.size := by omega
            have hx_w3_w0 : ∀ n : Nat, w.heap.size < w3.heap.size + n := by intro n; omega
            have hv_w3_w0 : ∀ n : Nat, w.heap.size ≤ w3.heap.size + n := by intro n; omega
            have hz_w3_w1 : w.heap.size + 1 < w3.heap.size := by omega
            have hy_w3_w1 : w.heap.size + 1 ≤ w3.heap.size := by omega
            have hx_w3_w1 : ∀ n : Nat, w.heap.size + 1 < w3.heap.size + n := by intro n; omega
            have hv_w3_w1 : ∀ n : Nat, w.heap.size + 1 ≤ w3.heap.size + n := by intro n; omega
            have hz_w3_w2 : w.heap.size + 2 < w3.heap.size := by omega
            have hy_w3_w2 : w.heap.size + 2 ≤ w3.heap.size := by omega
            have hx_w3_w2 : ∀ n : Nat, w.heap.size + 2 < w3.heap.size + n := by intro n; omega
            have hv_w3_w2 : ∀ n : Nat, w.heap.size + 2 ≤ w3.heap.size + n := by intro n; omega
            go_wp2_with fail
            apply Calls.mono
            · with_reducible exact kS _
            rintro _ w4 ⟨rfl, hb_w4⟩
            obtain ⟨hc_w4, hf_w4, hs_w4⟩ := bcell hb_w4
            try simp at hs_w4
            have hz_w4_w0 : w.heap.size < w4.heap.size := by omega
            have hy_w4_w0 : w.heap.size ≤ w4.heap.size := by omega
            have hx_w4_w0 : ∀ n : Nat, w.heap.size < w4.heap.size + n := by intro n; omega
            have hv_w4_w0 : ∀ n : Nat, w.heap.size ≤ w4.heap.size + n := by intro n; omega
            have hz_w4_w1 : w.heap.size + 1 < w4.heap.size := by omega
            have hy_w4_w1 : w.heap.size + 1 ≤ w4.heap.size := by omega
            have hx_w4_w1 : ∀ n : Nat, w.heap.size + 1 < w4.heap.size + n := by intro n; omega
            have hv_w4_w1 : ∀ n : Nat, w.heap.size + 1 ≤ w4.heap.size + n := by intro n; omega
            have hz_w4_w2 : w.heap.size + 2 < w4.heap.size := by omega
            have hy_w4_w2 : w.heap.size + 2 ≤ w4.heap.size := by omega
            have hx_w4_w2 : ∀ n : Nat, w.heap.size + 2 < w4.heap.size + n := by intro n; omega
            have hv_w4_w2 : ∀ n : Nat, w.heap.size + 2 ≤ w4.heap.size + n := by intro n; omega
            go_wp2_with fail
            apply Calls.mono
            · with_reducible exact kP _
            rintro _ w5 ⟨rfl, hb_w5⟩
            obtain ⟨hc_w5, hf_w5, hs_w5⟩ := bcell hb_w5
            try simp at hs_w5
            have hz_w5_w0 : w.heap.size < w5.heap.size := by omega
            have hy_w5_w0 : w.heap.size ≤ w5.heap.size := by omega
            have hx_w5_w0 : ∀ n : Nat, w.heap.size < w5.heap.size + n := by intro n; omega
            have hv_w5_w0 : ∀ n : Nat, w.heap.size ≤ w5.heap.size + n := by intro n; omega
            have hz_w5_w1 : w.heap.size + 1 < w5.heap.size := by omega
            have hy_w5_w1 : w.heap.size + 1 ≤ w5.heap.size := by omega
            have hx_w5_w1 : ∀ n : Nat, w.heap.size + 1 < w5.heap.size + n := by intro n; omega
            have hv_w5_w1 : ∀ n : Nat, w.heap.size + 1 ≤ w5.heap.size + n := by intro n; omega
            have hz_w5_w2 : w.heap.size + 2 < w5.heap.size := by omega
            have hy_w5_w2 : w.heap.size + 2 ≤ w5.heap.size := by omega
            have hx_w5_w2 : ∀ n : Nat, w.heap.size + 2 < w5.heap.size + n := by intro n; omega
            have hv_w5_w2 : ∀ n : Nat, w.heap.size + 2 ≤ w5.heap.size + n := by intro n; omega
            go_wp2
            refine bodyPost_ret (by simp [results, Try.results30, go_sem, *]; try rfl) rfl ?_
            refine ⟨by first | rfl | simp, ?_⟩
            repeat' (first | (with_reducible exact Below.refl _ _) | (with_reducible assumption) | (with_reducible refine Below.alloc ?_ ?_ _) | (with_reducible refine Below.drew ?_) | (with_reducible refine bdrewN ?_ _) | (with_reducible refine Below.setCell ?_ ?_ _) | (with_reducible refine bthen ?_ (by assumption) ?_) | go_size)
          · rw [sb_six h1 h2 (by omega) (by omega) hl]
            have hc1 : 0 ≤ cmpF (a * d) (c * b) := by unfold cmpF; rw [if_neg hl]; split <;> omega
            have kC := fun w => compareF_any a b c d h1 h2 w
            generalize cmpF (a * d) (c * b) = s at *
            clear h1 h2 hl
            go_enter Try.func30, Try.ntmps30
            go_wp2_with fail
            apply Calls.mono
            · with_reducible exact validFraction_any _ _ true H1.out _
            rintro _ w1 ⟨rfl, hb_w1⟩
            obtain ⟨hc_w1, hf_w1, hs_w1⟩ := bcell hb_w1
            try simp at hs_w1
            have hz_w1_w0 : w.heap.size < w1.heap.size := by omega
            have hy_w1_w0 : w.heap.size ≤ w1.heap.size := by omega
            have hx_w1_w0 : ∀ n : Nat, w.heap.size < w1.heap.size + n := by intro n; omega
            have hv_w1_w0 : ∀ n : Nat, w.heap.size ≤ w1.heap.size + n := by intro n; omega
            have hz_w1_w1 : w.heap.size + 1 < w1.heap.size := by omega
            have hy_w1_w1 : w.heap.size + 1 ≤ w1.heap.size := by omega
            have hx_w1_w1 : ∀ n : Nat, w.heap.size + 1 < w1.heap.size + n := by intro n; omega
            have hv_w1_w1 : ∀ n : Nat, w.heap.size + 1 ≤ w1.heap.size + n := by intro n; omega
            have hz_w1_w2 : w.heap.size + 2 < w1.heap.size := by omega
            have hy_w1_w2 : w.heap.size + 2 ≤ w1.heap.size := by omega
            have hx_w1_w2 : ∀ n : Nat, w.heap.size + 2 < w1.heap.size + n := by intro n; omega
            have hv_w1_w2 : ∀ n : Nat, w.heap.size + 2 ≤ w1.heap.size + n := by intro n; omega
            go_wp2_with fail
            apply Calls.mono
            · with_reducible exact validFraction_any _ _ true H2.out _
            rintro _ w2 ⟨rfl, hb_w2⟩
            obtain ⟨hc_w2, hf_w2, hs_w2⟩ := bcell hb_w2
            try simp at hs_w2
            have hz_w2_w0 : w.heap.size < w2.heap.size := by omega
            have hy_w2_w0 : w.heap.size ≤ w2.heap.size := by omega
            have hx_w2_w0 : ∀ n : Nat, w.heap.size < w2.heap.size + n := by intro n; omega
            have hv_w2_w0 : ∀ n : Nat, w.heap.size ≤ w2.heap.size + n := by intro n; omega
            have hz_w2_w1 : w.heap.size + 1 < w2.heap.size := by omega
            have hy_w2_w1 : w.heap.size + 1 ≤ w2.heap.size := by omega
            have hx_w2_w1 : ∀ n : Nat, w.heap.size + 1 < w2.heap.size + n := by intro n; omega
            have hv_w2_w1 : ∀ n : Nat, w.heap.size + 1 ≤ w2.heap.size + n := by intro n; omega
            have hz_w2_w2 : w.heap.size + 2 < w2.heap.size := by omega
            have hy_w2_w2 : w.heap.size + 2 ≤ w2.heap.size := by omega
            have hx_w2_w2 : ∀ n : Nat, w.heap.size + 2 < w2.heap.size + n := by intro n; omega
            have hv_w2_w2 : ∀ n : Nat, w.heap.size + 2 ≤ w2.heap.size + n := by intro n; omega
            go_wp2_with fail
            apply Calls.mono
            · with_reducible exact kC _
            rintro _ w3 ⟨rfl, hb_w3⟩
            obtain ⟨hc_w3, hf_w3, hs_w3⟩ := bcell hb_w3
            try simp at hs_w3
            have hz_w3_w0 : w.heap.size < w3.heap.size := by omega
            have hy_w3_w0 : w.heap.size ≤ w3.heap.size := by omega
            have hx_w3_w0 : ∀ n : Nat, w.heap.size < w3.heap.size + n := by intro n; omega
            have hv_w3_w0 : ∀ n : Nat, w.heap.size ≤ w3.heap.size + n := by intro n; omega
            have hz_w3_w1 : w.heap.size + 1 < w3.heap.size := by omega
            have hy_w3_w1 : w.heap.size + 1 ≤ w3.heap.size := by omega
            have hx_w3_w1 : ∀ n : Nat, w.heap.size + 1 < w3.heap.size + n := by intro n; omega
            have hv_w3_w1 : ∀ n : Nat, w.heap.size + 1 ≤ w3.heap.size + n := by intro n; omega
            have hz_w3_w2 : w.heap.size + 2 < w3.heap.size := by omega
            have hy_w3_w2 : w.heap.size + 2 ≤ w3.heap.size := by omega
            have hx_w3_w2 : ∀ n : Nat, w.heap.size + 2 < w3.heap.size + n := by intro n; omega
            have hv_w3_w2 : ∀ n : Nat, w.heap.size + 2 ≤ w3.heap.size + n := by intro n; omega
            go_wp2
            refine bodyPost_ret (by simp [results, Try.results30, go_sem, *]; try rfl) rfl ?_
            refine ⟨by first | rfl | simp, ?_⟩
            repeat' (first | (with_reducible exact Below.refl _ _) | (with_reducible assumption) | (with_reducible refine Below.alloc ?_ ?_ _) | (with_reducible refine Below.drew ?_) | (with_reducible refine bdrewN ?_ _) | (with_reducible refine Below.setCell ?_ ?_ _) | (with_reducible refine bthen ?_ (by assumption) ?_) | go_size)
set_option maxHeartbeats 2000000 in
theorem simplestS_any (a b c d : Int) (w : World) : Calls Try.prog 31 #[.agg #[.int .i64 a, .int .i64 b], .agg #[.int .i64 c, .int .i64 d]] w (Ret w (.tuple #[.agg #[.int .i64 (sbM a b c d).1, .int .i64 (sbM a b c d).2.1], .int .i64 (sbM a b c d).2.2])) := by
  cases h1 : okF a b
  · rw [sb_one (by rw [h1]; rfl)]
    have H1 := Lib.hid h1
    clear h1
    go_enter Try.func31, Try.ntmps31
    go_wp2_with fail
    apply Calls.mono
    · with_reducible exact l02Ok_any _ _ false H1.out _
    rintro _ w1 ⟨rfl, hb_w1⟩
    obtain ⟨hc_w1, hf_w1, hs_w1⟩ := bcell hb_w1
    try simp at hs_w1
    have hz_w1_w0 : w.heap.size < w1.heap.size := by omega
    have hy_w1_w0 : w.heap.size ≤ w1.heap.size := by omega
    have hx_w1_w0 : ∀ n : Nat, w.heap.size < w1.heap.size + n := by intro n; omega
    have hv_w1_w0 : ∀ n : Nat, w.heap.size ≤ w1.heap.size + n := by intro n; omega
    have hz_w1_w1 : w.heap.size + 1 < w1.heap.size := by omega
    have hy_w1_w1 : w.heap.size + 1 ≤ w1.heap.size := by omega
    have hx_w1_w1 : ∀ n : Nat, w.heap.size + 1 < w1.heap.size + n := by intro n; omega
    have hv_w1_w1 : ∀ n : Nat, w.heap.size + 1 ≤ w1.heap.size + n := by intro n; omega
    have hz_w1_w2 : w.heap.size + 2 < w1.heap.size := by omega
    have hy_w1_w2 : w.heap.size + 2 ≤ w1.heap.size := by omega
    have hx_w1_w2 : ∀ n : Nat, w.heap.size + 2 < w1.heap.size + n := by intro n; omega
    have hv_w1_w2 : ∀ n : Nat, w.heap.size + 2 ≤ w1.heap.size + n := by intro n; omega
    go_wp2
    refine bodyPost_ret (by simp [results, Try.results31, go_sem, *]; try rfl) rfl ?_
    refine ⟨by first | rfl | simp, ?_⟩
    repeat' (first | (with_reducible exact Below.refl _ _) | (with_reducible assumption) | (with_reducible refine Below.alloc ?_ ?_ _) | (with_reducible refine Below.drew ?_) | (with_reducible refine bdrewN ?_ _) | (with_reducible refine Below.setCell ?_ ?_ _) | (with_reducible refine bthen ?_ (by assumption) ?_) | go_size)
  · have H1 := Lib.hid h1
    cases h2 : okF c d
    · rw [sb_one (by rw [h1, h2]; rfl)]
      have H2 := Lib.hid h2
      clear h1 h2
      go_enter Try.func31, Try.ntmps31
      go_wp2_with fail
      apply Calls.mono
      · with_reducible exact l02Ok_any _ _ true H1.out _
      rintro _ w1 ⟨rfl, hb_w1⟩
      obtain ⟨hc_w1, hf_w1, hs_w1⟩ := bcell hb_w1
      try simp at hs_w1
      have hz_w1_w0 : w.heap.size < w1.heap.size := by omega
      have hy_w1_w0 : w.heap.size ≤ w1.heap.size := by omega
      have hx_w1_w0 : ∀ n : Nat, w.heap.size < w1.heap.size + n := by intro n; omega
      have hv_w1_w0 : ∀ n : Nat, w.heap.size ≤ w1.heap.size + n := by intro n; omega
      have hz_w1_w1 : w.heap.size + 1 < w1.heap.size := by omega
      have hy_w1_w1 : w.heap.size + 1 ≤ w1.heap.size := by omega
      have hx_w1_w1 : ∀ n : Nat, w.heap.size + 1 < w1.heap.size + n := by intro n; omega
      have hv_w1_w1 : ∀ n : Nat, w.heap.size + 1 ≤ w1.heap.size + n := by intro n; omega
      have hz_w1_w2 : w.heap.size + 2 < w1.heap.size := by omega
      have hy_w1_w2 : w.heap.size + 2 ≤ w1.heap.size := by omega
      have hx_w1_w2 : ∀ n : Nat, w.heap.size + 2 < w1.heap.size + n := by intro n; omega
      have hv_w1_w2 : ∀ n : Nat, w.heap.size + 2 ≤ w1.heap.size + n := by intro n; omega
      go_wp2_with fail
      apply Calls.mono
      · with_reducible exact l02Ok_any _ _ false H2.out _
      rintro _ w2 ⟨rfl, hb_w2⟩
      obtain ⟨hc_w2, hf_w2, hs_w2⟩ := bcell hb_w2
      try simp at hs_w2
      have hz_w2_w0 : w.heap.size < w2.heap.size := by omega
      have hy_w2_w0 : w.heap.size ≤ w2.heap.size := by omega
      have hx_w2_w0 : ∀ n : Nat, w.heap.size < w2.heap.size + n := by intro n; omega
      have hv_w2_w0 : ∀ n : Nat, w.heap.size ≤ w2.heap.size + n := by intro n; omega
      have hz_w2_w1 : w.heap.size + 1 < w2.heap.size := by omega
      have hy_w2_w1 : w.heap.size + 1 ≤ w2.heap.size := by omega
      have hx_w2_w1 : ∀ n : Nat, w.heap.size + 1 < w2.heap.size + n := by intro n; omega
      have hv_w2_w1 : ∀ n : Nat, w.heap.size + 1 ≤ w2.heap.size + n := by intro n; omega
      have hz_w2_w2 : w.heap.size + 2 < w2.heap.size := by omega
      have hy_w2_w2 : w.heap.size + 2 ≤ w2.heap.size := by omega
      have hx_w2_w2 : ∀ n : Nat, w.heap.size + 2 < w2.heap.size + n := by intro n; omega
      have hv_w2_w2 : ∀ n : Nat, w.heap.size + 2 ≤ w2.heap.size + n := by intro n; omega
      go_wp2
      refine bodyPost_ret (by simp [results, Try.results31, go_sem, *]; try rfl) rfl ?_
      refine ⟨by first | rfl | simp, ?_⟩
      repeat' (first | (with_reducible exact Below.refl _ _) | (with_reducible assumption) | (with_reducible refine Below.alloc ?_ ?_ _) | (with_reducible refine Below.drew ?_) | (with_reducible refine bdrewN ?_ _) | (with_reducible refine Below.setCell ?_ ?_ _) | (with_reducible refine bthen ?_ (by assumption) ?_) | go_size)
    · have H2 := Lib.hid h2
      obtain ⟨x1, x2, x3, x4⟩ := okF_bd h1
      obtain ⟨y1, y2, y3, y4⟩ := okF_bd h2
      by_cases ha : a < 0
      · rw [sb_two h1 h2 (by omega)]
        clear h1 h2
        go_enter Try.func31, Try.ntmps31
        go_wp2_with fail
        apply Calls.mono
        · with_reducible exact l02Ok_any _ _ true H1.out _
        rintro _ w1 ⟨rfl, hb_w1⟩
        obtain ⟨hc_w1, hf_w1, hs_w1⟩ := bcell hb_w1
        try simp at hs_w1
        have hz_w1_w0 : w.heap.size < w1.heap.size := by omega
        have hy_w1_w0 : w.heap.size ≤ w1.heap.size := by omega
        have hx_w1_w0 : ∀ n : Nat, w.heap.size < w1.heap.size + n := by intro n; omega
        have hv_w1_w0 : ∀ n : Nat, w.heap.size ≤ w1.heap.size + n := by intro n; omega
        have hz_w1_w1 : w.heap.size + 1 < w1.heap.size := by omega
        have hy_w1_w1 : w.heap.size + 1 ≤ w1.heap.size := by omega
        have hx_w1_w1 : ∀ n : Nat, w.heap.size + 1 < w1.heap.size + n := by intro n; omega
        have hv_w1_w1 : ∀ n : Nat, w.heap.size + 1 ≤ w1.heap.size + n := by intro n; omega
        have hz_w1_w2 : w.heap.size + 2 < w1.heap.size := by omega
        have hy_w1_w2 : w.heap.size + 2 ≤ w1.heap.size := by omega
        have hx_w1_w2 : ∀ n : Nat, w.heap.size + 2 < w1.heap.size + n := by intro n; omega
        have hv_w1_w2 : ∀ n : Nat, w.heap.size + 2 ≤ w1.heap.size + n := by intro n; omega
        go_wp2_with fail
        apply Calls.mono
        · with_reducible exact l02Ok_any _ _ true H2.out _
        rintro _ w2 ⟨rfl, hb_w2⟩
        obtain ⟨hc_w2, hf_w2, hs_w2⟩ := bcell hb_w2
        try simp at hs_w2
        have hz_w2_w0 : w.heap.size < w2.heap.size := by omega
        have hy_w2_w0 : w.heap.size ≤ w2.heap.size := by omega
        have hx_w2_w0 : ∀ n : Nat, w.heap.size < w2.heap.size + n := by intro n; omega
        have hv_w2_w0 : ∀ n : Nat, w.heap.size ≤ w2.heap.size + n := by intro n; omega
        have hz_w2_w1 : w.heap.size + 1 < w2.heap.size := by omega
        have hy_w2_w1 : w.heap.size + 1 ≤ w2.heap.size := by omega
        have hx_w2_w1 : ∀ n : Nat, w.heap.size + 1 < w2.heap.size + n := by intro n; omega
        have hv_w2_w1 : ∀ n : Nat, w.heap.size + 1 ≤ w2.heap.size + n := by intro n; omega
        have hz_w2_w2 : w.heap.size + 2 < w2.heap.size := by omega
        have hy_w2_w2 : w.heap.size + 2 ≤ w2.heap.size := by omega
        have hx_w2_w2 : ∀ n : Nat, w.heap.size + 2 < w2.heap.size + n := by intro n; omega
        have hv_w2_w2 : ∀ n : Nat, w.heap.size + 2 ≤ w2.heap.size + n := by intro n; omega
        go_wp2
        refine bodyPost_ret (by simp [results, Try.results31, go_sem, *]; try rfl) rfl ?_
        refine ⟨by first | rfl | simp, ?_⟩
        repeat' (first | (with_reducible exact Below.refl _ _) | (with_reducible assumption) | (with_reducible refine Below.alloc ?_ ?_ _) | (with_reducible refine Below.drew ?_) | (with_reducible refine bdrewN ?_ _) | (with_reducible refine Below.setCell ?_ ?_ _) | (with_reducible refine bthen ?_ (by assumption) ?_) | go_size)
      · by_cases hc : c < 0
        · rw [sb_two h1 h2 (by omega)]
          clear h1 h2
          go_enter Try.func31, Try.ntmps31
          go_wp2_with fail
          apply Calls.mono
          · with_reducible exact l02Ok_any _ _ true H1.out _
          rintro _ w1 ⟨rfl, hb_w1⟩
          obtain ⟨hc_w1, hf_w1, hs_w1⟩ := bcell hb_w1
          try simp at hs_w1
          have hz_w1_w0 : w.heap.size < w1.heap.size := by omega
          have hy_w1_w0 : w.heap.size ≤ w1.heap.size := by omega
          have hx_w1_w0 : ∀ n : Nat, w.heap.size < w1.heap.size + n := by intro n; omega
          have hv_w1_w0 : ∀ n : Nat, w.heap.size ≤ w1.heap.size + n := by intro n; omega
          have hz_w1_w1 : w.heap.size + 1 < w1.heap.size := by omega
          have hy_w1_w1 : w.heap.size + 1 ≤ w1.heap.size := by omega
          have hx_w1_w1 : ∀ n : Nat, w.heap.size + 1 < w1.heap.size + n := by intro n; omega
          have hv_w1_w1 : ∀ n : Nat, w.heap.size + 1 ≤ w1.heap.size + n := by intro n; omega
          have hz_w1_w2 : w.heap.size + 2 < w1.heap.size := by omega
          have hy_w1_w2 : w.heap.size + 2 ≤ w1.heap.size := by omega
          have hx_w1_w2 : ∀ n : Nat, w.heap.size + 2 < w1.heap.size + n := by intro n; omega
          have hv_w1_w2 : ∀ n : Nat, w.heap.size + 2 ≤ w1.heap.size + n := by intro n; omega
          go_wp2_with fail
          apply Calls.mono
          · with_reducible exact l02Ok_any _ _ true H2.out _
          rintro _ w2 ⟨rfl, hb_w2⟩
          obtain ⟨hc_w2, hf_w2, hs_w2⟩ := bcell hb_w2
          try simp at hs_w2
          have hz_w2_w0 : w.heap.size < w2.heap.size := by omega
          have hy_w2_w0 : w.heap.size ≤ w2.heap.size := by omega
          have hx_w2_w0 : ∀ n : Nat, w.heap.size < w2.heap.size + n := by intro n; omega
          have hv_w2_w0 : ∀ n : Nat, w.heap.size ≤ w2.heap.size + n := by intro n; omega
          have hz_w2_w1 : w.heap.size + 1 < w2.heap.size := by omega
          have hy_w2_w1 : w.heap.size + 1 ≤ w2.heap.size := by omega
          have hx_w2_w1 : ∀ n : Nat, w.heap.size + 1 < w2.heap.size + n := by intro n; omega
          have hv_w2_w1 : ∀ n : Nat, w.heap.size + 1 ≤ w2.heap.size + n := by intro n; omega
          have hz_w2_w2 : w.heap.size + 2 < w2.heap.size := by omega
          have hy_w2_w2 : w.heap.size + 2 ≤ w2.heap.size := by omega
          have hx_w2_w2 : ∀ n : Nat, w.heap.size + 2 < w2.heap.size + n := by intro n; omega
          have hv_w2_w2 : ∀ n : Nat, w.heap.size + 2 ≤ w2.heap.size + n := by intro n; omega
          go_wp2
          refine bodyPost_ret (by simp [results, Try.results31, go_sem, *]; try rfl) rfl ?_
          refine ⟨by first | rfl | simp, ?_⟩
          repeat' (first | (with_reducible exact Below.refl _ _) | (with_reducible assumption) | (with_reducible refine Below.alloc ?_ ?_ _) | (with_reducible refine Below.drew ?_) | (with_reducible refine bdrewN ?_ _) | (with_reducible refine Below.setCell ?_ ?_ _) | (with_reducible refine bthen ?_ (by assumption) ?_) | go_size)
        · by_cases hl : a * d < c * b
          · have e := sb_go h1 h2 (by omega) (by omega) hl
            have hi := sb_inv h1 h2 (by omega) (by omega) hl
            have kS := fun w => l05Simple_any _ a b c d hi w
            rw [e]
            generalize (smF (b + d).toNat a b c d).1 = P at *
            generalize (smF (b + d).toNat a b c d).2 = Q at *
            have kL := fun w => l02Less_any a b c d (by omega) (by omega) (by omega) (by omega) (by omega) (by omega) (by omega) (by omega) true (by simp [hl]) w
            cases hk : okF P Q
            · have HK := Lib.hid hk
              simp only [Bool.false_eq_true, if_false]
              clear h1 h2 e hi hl hk
              go_enter Try.func31, Try.ntmps31
              go_wp2_with fail
              apply Calls.mono
              · with_reducible exact l02Ok_any _ _ true H1.out _
              rintro _ w1 ⟨rfl, hb_w1⟩
              obtain ⟨hc_w1, hf_w1, hs_w1⟩ := bcell hb_w1
              try simp at hs_w1
              have hz_w1_w0 : w.heap.size < w1.heap.size := by omega
              have hy_w1_w0 : w.heap.size ≤ w1.heap.size := by omega
              have hx_w1_w0 : ∀ n : Nat, w.heap.size < w1.heap.size + n := by intro n; omega
              have hv_w1_w0 : ∀ n : Nat, w.heap.size ≤ w1.heap.size + n := by intro n; omega
              have hz_w1_w1 : w.heap.size + 1 < w1.heap.size := by omega
              have hy_w1_w1 : w.heap.size + 1 ≤ w1.heap.size := by omega
              have hx_w1_w1 : ∀ n : Nat, w.heap.size + 1 < w1.heap.size + n := by intro n; omega
              have hv_w1_w1 : ∀ n : Nat, w.heap.size + 1 ≤ w1.heap.size + n := by intro n; omega
              have hz_w1_w2 : w.heap.size + 2 < w1.heap.size := by omega
              have hy_w1_w2 : w.heap.size + 2 ≤ w1.heap.size := by omega
              have hx_w1_w2 : ∀ n : Nat, w.heap.size + 2 < w1.heap.size + n := by intro n; omega
              have hv_w1_w2 : ∀ n : Nat, w.heap.size + 2 ≤ w1.heap.size + n := by intro n; omega
              go_wp2_with fail
              apply Calls.mono
              · with_reducible exact l02Ok_any _ _ true H2.out _
              rintro _ w2 ⟨rfl, hb_w2⟩
              obtain ⟨hc_w2, hf_w2, hs_w2⟩ := bcell hb_w2
              try simp at hs_w2
              have hz_w2_w0 : w.heap.size < w2.heap.size := by omega
              have hy_w2_w0 : w.heap.size ≤ w2.heap.size := by omega
              have hx_w2_w0 : ∀ n : Nat, w.heap.size < w2.heap.size + n := by intro n; omega
              have hv_w2_w0 : ∀ n : Nat, w.heap.size ≤ w2.heap.size + n := by intro n; omega
              have hz_w2_w1 : w.heap.size + 1 < w2.heap.size := by omega
              have hy_w2_w1 : w.heap.size + 1 ≤ w2.heap.size := by omega
              have hx_w2_w1 : ∀ n : Nat, w.heap.size + 1 < w2.heap.size + n := by intro n; omega
              have hv_w2_w1 : ∀ n : Nat, w.heap.size + 1 ≤ w2.heap.size + n := by intro n; omega
              have hz_w2_w2 : w.heap.size + 2 < w2.heap.size := by omega
              have hy_w2_w2 : w.heap.size + 2 ≤ w2.heap.size := by omega
              have hx_w2_w2 : ∀ n : Nat, w.heap.size + 2 < w2.heap.size + n := by intro n; omega
              have hv_w2_w2 : ∀ n : Nat, w.heap.size + 2 ≤ w2.heap.size + n := by intro n; omega
              go_wp2_with fail
              apply Calls.mono
              · with_reducible exact kL _
              rintro _ w3 ⟨rfl, hb_w3⟩
              obtain ⟨hc_w3, hf_w3, hs_w3⟩ := bcell hb_w3
              try simp at hs_w3
              have hz_w3_w0 : w.heap.size < w3.heap.size := by omega
              have hy_w3_w0 : w.heap.size ≤ w3.heap.size := by omega
              have hx_w3_w0 : ∀ n : Nat, w.heap.size < w3.heap.size + n := by intro n; omega
              have hv_w3_w0 : ∀ n : Nat, w.heap.size ≤ w3.heap.size + n := by intro n; omega
              have hz_w3_w1 : w.heap.size + 1 < w3.heap.size := by omega
              have hy_w3_w1 : w.heap.size + 1 ≤ w3.heap.size := by omega
              have hx_w3_w1 : ∀ n : Nat, w.heap.size + 1 < w3.heap.size + n := by intro n; omega
              have hv_w3_w1 : ∀ n : Nat, w.heap.size + 1 ≤ w3.heap.size + n := by intro n; omega
              have hz_w3_w2 : w.heap.size + 2 < w3.heap.size := by omega
              have hy_w3_w2 : w.heap.size + 2 ≤ w3.heap.size := by omega
              have hx_w3_w2 : ∀ n : Nat, w.heap.size + 2 < w3.heap.size + n := by intro n; omega
              have hv_w3_w2 : ∀ n : Nat, w.heap.size + 2 ≤ w3.heap.size + n := by intro n; omega
              go_wp2_with fail
              apply Calls.mono
              · with_reducible exact kS _
              rintro _ w4 ⟨rfl, hb_w4⟩
              obtain ⟨hc_w4, hf_w4, hs_w4⟩ := bcell hb_w4
              try simp at hs_w4
              have hz_w4_w0 : w.heap.size < w4.heap.size := by omega
              have hy_w4_w0 : w.heap.size ≤ w4.heap.size := by omega
              have hx_w4_w0 : ∀ n : Nat, w.heap.size < w4.heap.size + n := by intro n; omega
              have hv_w4_w0 : ∀ n : Nat, w.heap.size ≤ w4.heap.size + n := by intro n; omega
              have hz_w4_w1 : w.heap.size + 1 < w4.heap.size := by omega
              have hy_w4_w1 : w.heap.size + 1 ≤ w4.heap.size := by omega
              have hx_w4_w1 : ∀ n : Nat, w.heap.size + 1 < w4.heap.size + n := by intro n; omega
              have hv_w4_w1 : ∀ n : Nat, w.heap.size + 1 ≤ w4.heap.size + n := by intro n; omega
              have hz_w4_w2 : w.heap.size + 2 < w4.heap.size := by omega
              have hy_w4_w2 : w.heap.size + 2 ≤ w4.heap.size := by omega
              have hx_w4_w2 : ∀ n : Nat, w.heap.size + 2 < w4.heap.size + n := by intro n; omega
              have hv_w4_w2 : ∀ n : Nat, w.heap.size + 2 ≤ w4.heap.size + n := by intro n; omega
              go_wp2_with fail
              apply Calls.mono
              · with_reducible exact l02Ok_any _ _ false HK.out _
              rintro _ w5 ⟨rfl, hb_w5⟩
              obtain ⟨hc_w5, hf_w5, hs_w5⟩ := bcell hb_w5
              try simp at hs_w5
              have hz_w5_w0 : w.heap.size < w5.heap.size := by omega
              have hy_w5_w0 : w.heap.size ≤ w5.heap.size := by omega
              have hx_w5_w0 : ∀ n : Nat, w.heap.size < w5.heap.size + n := by intro n; omega
              have hv_w5_w0 : ∀ n : Nat, w.heap.size ≤ w5.heap.size + n := by intro n; omega
              have hz_w5_w1 : w.heap.size + 1 < w5.heap.size := by omega
              have hy_w5_w1 : w.heap.size + 1 ≤ w5.heap.size := by omega
              have hx_w5_w1 : ∀ n : Nat, w.heap.size + 1 < w5.heap.size + n := by intro n; omega
              have hv_w5_w1 : ∀ n : Nat, w.heap.size + 1 ≤ w5.heap.size + n := by intro n; omega
              have hz_w5_w2 : w.heap.size + 2 < w5.heap.size := by omega
              have hy_w5_w2 : w.heap.size + 2 ≤ w5.heap.size := by omega
              have hx_w5_w2 : ∀ n : Nat, w.heap.size + 2 < w5.heap.size + n := by intro n; omega
              have hv_w5_w2 : ∀ n : Nat, w.heap.size + 2 ≤ w5.heap.size + n := by intro n; omega
              have hz_w5_w40 : w4.heap.size < w5.heap.size := by omega
              have hy_w5_w40 : w4.heap.size ≤ w5.heap.size := by omega
              have hx_w5_w40 : ∀ n : Nat, w4.heap.size < w5.heap.size + n := by intro n; omega
              have hv_w5_w40 : ∀ n : Nat, w4.heap.size ≤ w5.heap.size + n := by intro n; omega
              go_wp2
              refine bodyPost_ret (by simp [results, Try.results31, go_sem, *]; try rfl) rfl ?_
              refine ⟨by first | rfl | simp, ?_⟩
              repeat' (first | (with_reducible exact Below.refl _ _) | (with_reducible assumption) | (with_reducible refine Below.alloc ?_ ?_ _) | (with_reducible refine Below.drew ?_) | (with_reducible refine bdrewN ?_ _) | (with_reducible refine Below.setCell ?_ ?_ _) | (with_reducible refine bthen ?_ (by assumption) ?_) | go_size)
            · have HK := Lib.hid hk
              simp only [if_true]
              clear h1 h2 e hi hl hk
              go_enter Try.func31, Try.ntmps31
              go_wp2_with fail
              apply Calls.mono
              · with_reducible exact l02Ok_any _ _ true H1.out _
              rintro _ w1 ⟨rfl, hb_w1⟩
              obtain ⟨hc_w1, hf_w1, hs_w1⟩ := bcell hb_w1
              try simp at hs_w1
              have hz_w1_w0 : w.heap.size < w1.heap.size := by omega
              have hy_w1_w0 : w.heap.size ≤ w1.heap.size := by omega
              have hx_w1_w0 : ∀ n : Nat, w.heap.size < w1.heap.size + n := by intro n; omega
              have hv_w1_w0 : ∀ n : Nat, w.heap.size ≤ w1.heap.size + n := by intro n; omega
              have hz_w1_w1 : w.heap.size + 1 < w1.heap.size := by omega
              have hy_w1_w1 : w.heap.size + 1 ≤ w1.heap.size := by omega
              have hx_w1_w1 : ∀ n : Nat, w.heap.size + 1 < w1.heap.size + n := by intro n; omega
              have hv_w1_w1 : ∀ n : Nat, w.heap.size + 1 ≤ w1.heap.size + n := by intro n; omega
              have hz_w1_w2 : w.heap.size + 2 < w1.heap.size := by omega
              have hy_w1_w2 : w.heap.size + 2 ≤ w1.heap.size := by omega
              have hx_w1_w2 : ∀ n : Nat, w.heap.size + 2 < w1.heap.size + n := by intro n; omega
              have hv_w1_w2 : ∀ n : Nat, w.heap.size + 2 ≤ w1.heap.size + n := by intro n; omega
              go_wp2_with fail
              apply Calls.mono
              · with_reducible exact l02Ok_any _ _ true H2.out _
              rintro _ w2 ⟨rfl, hb_w2⟩
              obtain ⟨hc_w2, hf_w2, hs_w2⟩ := bcell hb_w2
              try simp at hs_w2
              have hz_w2_w0 : w.heap.size < w2.heap.size := by omega
              have hy_w2_w0 : w.heap.size ≤ w2.heap.size := by omega
              have hx_w2_w0 : ∀ n : Nat, w.heap.size < w2.heap.size + n := by intro n; omega
              have hv_w2_w0 : ∀ n : Nat, w.heap.size ≤ w2.heap.size + n := by intro n; omega
              have hz_w2_w1 : w.heap.size + 1 < w2.heap.size := by omega
              have hy_w2_w1 : w.heap.size + 1 ≤ w2.heap.size := by omega
              have hx_w2_w1 : ∀ n : Nat, w.heap.size + 1 < w2.heap.size + n := by intro n; omega
              have hv_w2_w1 : ∀ n : Nat, w.heap.size + 1 ≤ w2.heap.size + n := by intro n; omega
              have hz_w2_w2 : w.heap.size + 2 < w2.heap.size := by omega
              have hy_w2_w2 : w.heap.size + 2 ≤ w2.heap.size := by omega
              have hx_w2_w2 : ∀ n : Nat, w.heap.size + 2 < w2.heap.size + n := by intro n; omega
              have hv_w2_w2 : ∀ n : Nat, w.heap.size + 2 ≤ w2.heap.size + n := by intro n; omega
              go_wp2_with fail
              apply Calls.mono
              · with_reducible exact kL _
              rintro _ w3 ⟨rfl, hb_w3⟩
              obtain ⟨hc_w3, hf_w3, hs_w3⟩ := bcell hb_w3
              try simp at hs_w3
              have hz_w3_w0 : w.heap.size < w3.heap.size := by omega
              have hy_w3_w0 : w.heap.size ≤ w3.heap.size := by omega
              have hx_w3_w0 : ∀ n : Nat, w.heap.size < w3.heap.size + n := by intro n; omega
              have hv_w3_w0 : ∀ n : Nat, w.heap.size ≤ w3.heap.size + n := by intro n; omega
              have hz_w3_w1 : w.heap.size + 1 < w3.heap.size := by omega
              have hy_w3_w1 : w.heap.size + 1 ≤ w3.heap.size := by omega
              have hx_w3_w1 : ∀ n : Nat, w.heap.size + 1 < w3.heap.size + n := by intro n; omega
              have hv_w3_w1 : ∀ n : Nat, w.heap.size + 1 ≤ w3.heap.size + n := by intro n; omega
              have hz_w3_w2 : w.heap.size + 2 < w3.heap.size := by omega
              have hy_w3_w2 : w.heap.size + 2 ≤ w3.heap.size := by omega
              have hx_w3_w2 : ∀ n : Nat, w.heap.size + 2 < w3.heap.size + n := by intro n; omega
              have hv_w3_w2 : ∀ n : Nat, w.heap.size + 2 ≤ w3.heap.size + n := by intro n; omega
              go_wp2_with fail
              apply Calls.mono
              · with_reducible exact kS _
              rintro _ w4 ⟨rfl, hb_w4⟩
              obtain ⟨hc_w4, hf_w4, hs_w4⟩ := bcell hb_w4
              try simp at hs_w4
              have hz_w4_w0 : w.heap.size < w4.heap.size := by omega
              have hy_w4_w0 : w.heap.size ≤ w4.heap.size := by omega
              have hx_w4_w0 : ∀ n : Nat, w.heap.size < w4.heap.size + n := by intro n; omega
              have hv_w4_w0 : ∀ n : Nat, w.heap.size ≤ w4.heap.size + n := by intro n; omega
              have hz_w4_w1 : w.heap.size + 1 < w4.heap.size := by omega
              have hy_w4_w1 : w.heap.size + 1 ≤ w4.heap.size := by omega
              have hx_w4_w1 : ∀ n : Nat, w.heap.size + 1 < w4.heap.size + n := by intro n; omega
              have hv_w4_w1 : ∀ n : Nat, w.heap.size + 1 ≤ w4.heap.size + n := by intro n; omega
              have hz_w4_w2 : w.heap.size + 2 < w4.heap.size := by omega
              have hy_w4_w2 : w.heap.size + 2 ≤ w4.heap.size := by omega
              have hx_w4_w2 : ∀ n : Nat, w.heap.size + 2 < w4.heap.size + n := by intro n; omega
              have hv_w4_w2 : ∀ n : Nat, w.heap.size + 2 ≤ w4.heap.size + n := by intro n; omega
              go_wp2_with fail
              apply Calls.mono
              · with_reducible exact l02Ok_any _ _ true HK.out _
              rintro _ w5 ⟨rfl, hb_w5⟩
              obtain ⟨hc_w5, hf_w5, hs_w5⟩ := bcell hb_w5
              try simp at hs_w5
              have hz_w5_w0 : w.heap.size < w5.heap.size := by omega
              have hy_w5_w0 : w.heap.size ≤ w5.heap.size := by omega
              have hx_w5_w0 : ∀ n : Nat, w.heap.size < w5.heap.size + n := by intro n; omega
              have hv_w5_w0 : ∀ n : Nat, w.heap.size ≤ w5.heap.size + n := by intro n; omega
              have hz_w5_w1 : w.heap.size + 1 < w5.heap.size := by omega
              have hy_w5_w1 : w.heap.size + 1 ≤ w5.heap.size := by omega
              have hx_w5_w1 : ∀ n : Nat, w.heap.size + 1 < w5.heap.size + n := by intro n; omega
              have hv_w5_w1 : ∀ n : Nat, w.heap.size + 1 ≤ w5.heap.size + n := by intro n; omega
              have hz_w5_w2 : w.heap.size + 2 < w5.heap.size := by omega
              have hy_w5_w2 : w.heap.size + 2 ≤ w5.heap.size := by omega
              have hx_w5_w2 : ∀ n : Nat, w.heap.size + 2 < w5.heap.size + n := by intro n; omega
              have hv_w5_w2 : ∀ n : Nat, w.heap.size + 2 ≤ w5.heap.size + n := by intro n; omega
              have hz_w5_w40 : w4.heap.size < w5.heap.size := by omega
              have hy_w5_w40 : w4.heap.size ≤ w5.heap.size := by omega
              have hx_w5_w40 : ∀ n : Nat, w4.heap.size < w5.heap.size + n := by intro n; omega
              have hv_w5_w40 : ∀ n : Nat, w4.heap.size ≤ w5.heap.size + n := by intro n; omega
              have zC : w.heap.size + 1 + 1 ≠ w4.heap.size := by omega
              have zD : w4.heap.size ≠ w.heap.size + 1 + 1 := by omega
              go_wp2
              refine bodyPost_ret (by simp [results, Try.results31, go_sem, *]; try rfl) rfl ?_
              refine ⟨by first | rfl | simp, ?_⟩
              repeat' (first | (with_reducible exact Below.refl _ _) | (with_reducible assumption) | (with_reducible refine Below.alloc ?_ ?_ _) | (with_reducible refine Below.drew ?_) | (with_reducible refine bdrewN ?_ _) | (with_reducible refine Below.setCell ?_ ?_ _) | (with_reducible refine bthen ?_ (by assumption) ?_) | go_size)
          · rw [sb_six h1 h2 (by omega) (by omega) hl]
            have kL := fun w => l02Less_any a b c d (by omega) (by omega) (by omega) (by omega) (by omega) (by omega) (by omega) (by omega) false (by simp [hl]) w
            clear h1 h2 hl
            go_enter Try.func31, Try.ntmps31
            go_wp2_with fail
            apply Calls.mono
            · with_reducible exact l02Ok_any _ _ true H1.out _
            rintro _ w1 ⟨rfl, hb_w1⟩
            obtain ⟨hc_w1, hf_w1, hs_w1⟩ := bcell hb_w1
            try simp at hs_w1
            have hz_w1_w0 : w.heap.size < w1.heap.size := by omega
            have hy_w1_w0 : w.heap.size ≤ w1.heap.size := by omega
            have hx_w1_w0 : ∀ n : Nat, w.heap.size < w1.heap.size + n := by intro n; omega
            have hv_w1_w0 : ∀ n : Nat, w.heap.size ≤ w1.heap.size + n := by intro n; omega
            have hz_w1_w1 : w.heap.size + 1 < w1.heap.size := by omega
            have hy_w1_w1 : w.heap.size + 1 ≤ w1.heap.size := by omega
            have hx_w1_w1 : ∀ n : Nat, w.heap.size + 1 < w1.heap.size + n := by intro n; omega
            have hv_w1_w1 : ∀ n : Nat, w.heap.size + 1 ≤ w1.heap.size + n := by intro n; omega
            have hz_w1_w2 : w.heap.size + 2 < w1.heap.size := by omega
            have hy_w1_w2 : w.heap.size + 2 ≤ w1.heap.size := by omega
            have hx_w1_w2 : ∀ n : Nat, w.heap.size + 2 < w1.heap.size + n := by intro n; omega
            have hv_w1_w2 : ∀ n : Nat, w.heap.size + 2 ≤ w1.heap.size + n := by intro n; omega
            go_wp2_with fail
            apply Calls.mono
            · with_reducible exact l02Ok_any _ _ true H2.out _
            rintro _ w2 ⟨rfl, hb_w2⟩
            obtain ⟨hc_w2, hf_w2, hs_w2⟩ := bcell hb_w2
            try simp at hs_w2
            have hz_w2_w0 : w.heap.size < w2.heap.size := by omega
            have hy_w2_w0 : w.heap.size ≤ w2.heap.size := by omega
            have hx_w2_w0 : ∀ n : Nat, w.heap.size < w2.heap.size + n := by intro n; omega
            have hv_w2_w0 : ∀ n : Nat, w.heap.size ≤ w2.heap.size + n := by intro n; omega
            have hz_w2_w1 : w.heap.size + 1 < w2.heap.size := by omega
            have hy_w2_w1 : w.heap.size + 1 ≤ w2.heap.size := by omega
            have hx_w2_w1 : ∀ n : Nat, w.heap.size + 1 < w2.heap.size + n := by intro n; omega
            have hv_w2_w1 : ∀ n : Nat, w.heap.size + 1 ≤ w2.heap.size + n := by intro n; omega
            have hz_w2_w2 : w.heap.size + 2 < w2.heap.size := by omega
            have hy_w2_w2 : w.heap.size + 2 ≤ w2.heap.size := by omega
            have hx_w2_w2 : ∀ n : Nat, w.heap.size + 2 < w2.heap.size + n := by intro n; omega
            have hv_w2_w2 : ∀ n : Nat, w.heap.size + 2 ≤ w2.heap.size + n := by intro n; omega
            go_wp2_with fail
            apply Calls.mono
            · with_reducible exact kL _
            rintro _ w3 ⟨rfl, hb_w3⟩
            obtain ⟨hc_w3, hf_w3, hs_w3⟩ := bcell hb_w3
            try simp at hs_w3
            have hz_w3_w0 : w.heap.size < w3.heap.size := by omega
            have hy_w3_w0 : w.heap.size ≤ w3.heap.size := by omega
            have hx_w3_w0 : ∀ n : Nat, w.heap.size < w3.heap.size + n := by intro n; omega
            have hv_w3_w0 : ∀ n : Nat, w.heap.size ≤ w3.heap.size + n := by intro n; omega
            have hz_w3_w1 : w.heap.size + 1 < w3.heap.size := by omega
            have hy_w3_w1 : w.heap.size + 1 ≤ w3.heap.size := by omega
            have hx_w3_w1 : ∀ n : Nat, w.heap.size + 1 < w3.heap.size + n := by intro n; omega
            have hv_w3_w1 : ∀ n : Nat, w.heap.size + 1 ≤ w3.heap.size + n := by intro n; omega
            have hz_w3_w2 : w.heap.size + 2 < w3.heap.size := by omega
            have hy_w3_w2 : w.heap.size + 2 ≤ w3.heap.size := by omega
            have hx_w3_w2 : ∀ n : Nat, w.heap.size + 2 < w3.heap.size + n := by intro n; omega
            have hv_w3_w2 : ∀ n : Nat, w.heap.size + 2 ≤ w3.heap.size + n := by intro n; omega
            go_wp2
            refine bodyPost_ret (by simp [results, Try.results31, go_sem, *]; try rfl) rfl ?_
            refine ⟨by first | rfl | simp, ?_⟩
            repeat' (first | (with_reducible exact Below.refl _ _) | (with_reducible assumption) | (with_reducible refine Below.alloc ?_ ?_ _) | (with_reducible refine Below.drew ?_) | (with_reducible refine bdrewN ?_ _) | (with_reducible refine Below.setCell ?_ ?_ _) | (with_reducible refine bthen ?_ (by assumption) ?_) | go_size)
theorem floorOf_any (a b : Int) (h : okF a b = true) (w : World) : Calls Try.prog 40 #[.agg #[.int .i64 a, .int .i64 b]] w (Ret w (.tuple #[.int .i64 (a / b), .int .i64 0])) := by
  obtain ⟨x1, x2, x3, x4⟩ := okF_bd h
  have H := Lib.hid h
  have kF := fun w => floorDiv_any a b (by omega) (by omega) x1 (by omega) w
  generalize a / b = q at *
  clear h
  go_enter Try.func40, Try.ntmps40
  go_wp2_with fail
  apply Calls.mono
  · with_reducible exact validFraction_any _ _ true H.out _
  rintro _ w1 ⟨rfl, hb_w1⟩
  obtain ⟨hc_w1, hf_w1, hs_w1⟩ := bcell hb_w1
  try simp at hs_w1
  have hz_w1_w0 : w.heap.size < w1.heap.size := by omega
  have hy_w1_w0 : w.heap.size ≤ w1.heap.size := by omega
  have hx_w1_w0 : ∀ n : Nat, w.heap.size < w1.heap.size + n := by intro n; omega
  have hv_w1_w0 : ∀ n : Nat, w.heap.size ≤ w1.heap.size + n := by intro n; omega
  go_wp2_with fail
  apply Calls.mono
  · with_reducible exact kF _
  rintro _ w2 ⟨rfl, hb_w2⟩
  obtain ⟨hc_w2, hf_w2, hs_w2⟩ := bcell hb_w2
  try simp at hs_w2
  have hz_w2_w0 : w.heap.size < w2.heap.size := by omega
  have hy_w2_w0 : w.heap.size ≤ w2.heap.size := by omega
  have hx_w2_w0 : ∀ n : Nat, w.heap.size < w2.heap.size + n := by intro n; omega
  have hv_w2_w0 : ∀ n : Nat, w.heap.size ≤ w2.heap.size + n := by intro n; omega
  go_wp2
  go_ret2
  refine ⟨by first | rfl | (simp), ?_⟩
  repeat' (first | (with_reducible exact Below.refl _ _) | (with_reducible assumption) | (with_reducible refine Below.alloc ?_ ?_ _) | (with_reducible refine Below.drew ?_) | (with_reducible refine bdrewN ?_ _) | (with_reducible refine Below.setCell ?_ ?_ _) | (with_reducible refine bthen ?_ (by assumption) ?_) | go_size)
end Go.Proofs.Ytlmmpeeacjbobaa
namespace Go.Proofs.Ytlmmpeeacjbobaa
open Go.RowKit

theorem results_five {fn : Func} {t u v x y : Tmp} (h : fn.results = #[.tmp t, .tmp u, .tmp v, .tmp x, .tmp y]) (tmps : Array Value) (P : Program) (w : World) :
    (results fn tmps).run P w = .ok (.tuple #[tmps.getD t undef, tmps.getD u undef, tmps.getD v undef, tmps.getD x undef, tmps.getD y undef]) w := by simp [results, h]
/-- BoundsOf. -/
def boM (n d : Int) : (Int × Int) × (Int × Int) × Int := if posC n d = 0 then (bnP (ptP n d), bnR (ptP n d), 0) else ((0, 0), (0, 0), posC n d)
theorem bn_det (s : List Int) : ∀ k : Nat, k ≤ s.length → (bnR (s.take k)).1 * (bnP (s.take k)).2 - (bnP (s.take k)).1 * (bnR (s.take k)).2 = 1
  | 0, _ => by simp [bnP, bnR, mtx]
  | k + 1, h => by
    obtain ⟨x, hx⟩ := get_ex (l := s) (k := k) (by omega)
    have ih := bn_det s k (by omega)
    have hlk : (s.take k).length = k := by rw [List.length_take]; omega
    rw [take_ex hx]
    by_cases he : k % 2 = 0
    · obtain ⟨e1, e2⟩ := bn_even (s := s.take k) x (by rw [hlk]; exact he)
      rw [e1, e2]
      simp only
      grind
    · obtain ⟨e1, e2⟩ := bn_odd (s := s.take k) x (by rw [hlk]; exact he)
      rw [e1, e2]
      simp only
      grind
/-- What FnSimplest asks of the bounds. -/
theorem bo_law {n d : Int} (h : (boM n d).2.2 = 0) : (boM n d).1.1 + (boM n d).2.1.1 = n ∧ (boM n d).1.2 + (boM n d).2.1.2 = d ∧ (boM n d).2.1.1 * (boM n d).1.2 - (boM n d).1.1 * (boM n d).2.1.2 = 1 ∧
    (0 ≤ (boM n d).1.1 ∧ (boM n d).1.1 ≤ 1000000000) ∧ (0 ≤ (boM n d).1.2 ∧ (boM n d).1.2 ≤ 1000000000) ∧ (0 ≤ (boM n d).2.1.1 ∧ (boM n d).2.1.1 ≤ 1000000000) ∧ (0 ≤ (boM n d).2.1.2 ∧ (boM n d).2.1.2 ≤ 1000000000) := by
  by_cases hp : posC n d = 0
  · have e : boM n d = (bnP (ptP n d), bnR (ptP n d), 0) := by unfold boM; rw [if_pos hp]
    rw [e]
    simp only
    obtain ⟨⟨e1, e2⟩, _, _, _, _⟩ := child_bn hp
    have hd := bn_det (ptP n d) (ptP n d).length (Nat.le_refl _)
    have hs := (sm_path hp).2.2 (ptP n d).length (Nat.le_refl _)
    rw [List.take_of_length_le (Nat.le_refl _)] at hd hs
    exact ⟨by omega, by omega, hd, hs.1, hs.2.1, hs.2.2.1, hs.2.2.2⟩
  · unfold boM at h; rw [if_neg hp] at h; exact absurd h hp
set_option maxHeartbeats 2000000 in
theorem boundsI_any (n d : Int) (w : World) : Calls Try.prog 37 #[.agg #[.int .i64 n, .int .i64 d]] w (Ret w (.tuple #[.int .i64 (boM n d).1.1, .int .i64 (boM n d).1.2, .int .i64 (boM n d).2.1.1, .int .i64 (boM n d).2.1.2, .int .i64 (boM n d).2.2])) := by
  obtain ⟨r, hr⟩ : ∃ r, posC n d = r := ⟨_, rfl⟩
  have H := Lib.hid (posC_one (fun _ => n) (fun _ => d) 1 rfl hr)
  by_cases h0 : r = 0
  · subst h0
    obtain ⟨hok, ⟨n1, n2⟩, d1, d2⟩ := pos_facts hr
    obtain ⟨i, l, hL, E⟩ := ex_all n1 n2 d1 d2
    have kP := fun w => pathTo_any n d n1 n2 d1 d2 i l hL E w
    have hS := sm_path hr
    have hM : boM n d = (bnP (ptP n d), bnR (ptP n d), 0) := by unfold boM; rw [if_pos hr]
    rw [pt_of hr hL] at hS hM
    rw [hM]
    generalize pthL i l = s at *
    have kB := fun v w h => bounds_any v s.length s w h hS
    generalize bnP s = P at *
    generalize bnR s = R at *
    clear hr hL E hok hS hM
    go_enter Try.func37, Try.ntmps37
    go_wp2_with fail
    apply Calls.mono
    · with_reducible exact checkPositive_any 1 1 _ (fun _ => n) (fun _ => d) (by omega) (by omega) (by omega) _ (by simp) (by intro j hj; obtain rfl : j = 0 := (by omega); exact ⟨(blk_at1' w _ _ _).cell 0, (blk_at1' w _ _ _).cell 1⟩) 0 H.out
    rintro _ w1 ⟨rfl, hb_w1⟩
    obtain ⟨hc_w1, hf_w1, hs_w1⟩ := bcell hb_w1
    try simp at hs_w1
    have hz_w1_w0 : w.heap.size < w1.heap.size := by omega
    have hy_w1_w0 : w.heap.size ≤ w1.heap.size := by omega
    have hx_w1_w0 : ∀ n : Nat, w.heap.size < w1.heap.size + n := by intro n; omega
    have hv_w1_w0 : ∀ n : Nat, w.heap.size ≤ w1.heap.size + n := by intro n; omega
    have hz_w1_w1 : w.heap.size + 1 < w1.heap.size := by omega
    have hy_w1_w1 : w.heap.size + 1 ≤ w1.heap.size := by omega
    have hx_w1_w1 : ∀ n : Nat, w.heap.size + 1 < w1.heap.size + n := by intro n; omega
    have hv_w1_w1 : ∀ n : Nat, w.heap.size + 1 ≤ w1.heap.size + n := by intro n; omega
    go_wp2_with fail
    apply Calls.mono
    · with_reducible exact kP _
    rintro _ w2 ⟨v2, rfl, ho2, hb_w2⟩
    obtain ⟨hc_w2, hf_w2, hs_w2⟩ := bcell hb_w2
    try simp at hs_w2
    have hz_w2_w0 : w.heap.size < w2.heap.size := by omega
    have hy_w2_w0 : w.heap.size ≤ w2.heap.size := by omega
    have hx_w2_w0 : ∀ n : Nat, w.heap.size < w2.heap.size + n := by intro n; omega
    have hv_w2_w0 : ∀ n : Nat, w.heap.size ≤ w2.heap.size + n := by intro n; omega
    have hz_w2_w1 : w.heap.size + 1 < w2.heap.size := by omega
    have hy_w2_w1 : w.heap.size + 1 ≤ w2.heap.size := by omega
    have hx_w2_w1 : ∀ n : Nat, w.heap.size + 1 < w2.heap.size + n := by intro n; omega
    have hv_w2_w1 : ∀ n : Nat, w.heap.size + 1 ≤ w2.heap.size + n := by intro n; omega
    have hbw2 : Below w.heap.size w w2 := by repeat' (first | (with_reducible exact Below.refl _ _) | (with_reducible assumption) | (with_reducible refine Below.alloc ?_ ?_ _) | (with_reducible refine Below.drew ?_) | (with_reducible refine bdrewN ?_ _) | (with_reducible refine Below.setCell ?_ ?_ _) | (with_reducible refine bthen ?_ (by assumption) ?_) | go_size)
    go_wp2_with fail
    apply Calls.mono
    · with_reducible exact kB _ _ (Rd.of_own ho2)
    rintro _ w3 ⟨rfl, hb_w3⟩
    have belz := bthen hbw2 hb_w3 hbw2.size
    go_wp2
    refine bodyPost_ret (results_five rfl _ _ _) rfl ?_
    exact ⟨rfl, belz⟩
  · have hM : boM n d = ((0, 0), (0, 0), r) := by unfold boM; rw [if_neg (by rw [hr]; exact h0), hr]
    rw [hM]
    have hne : (r != 0) = true := by simp [h0]
    clear hr h0 hM
    go_enter Try.func37, Try.ntmps37
    go_wp2_with fail
    apply Calls.mono
    · with_reducible exact checkPositive_any 1 1 _ (fun _ => n) (fun _ => d) (by omega) (by omega) (by omega) _ (by simp) (by intro j hj; obtain rfl : j = 0 := (by omega); exact ⟨(blk_at1' w _ _ _).cell 0, (blk_at1' w _ _ _).cell 1⟩) r H.out
    rintro _ w1 ⟨rfl, hb_w1⟩
    obtain ⟨hc_w1, hf_w1, hs_w1⟩ := bcell hb_w1
    try simp at hs_w1
    have hz_w1_w0 : w.heap.size < w1.heap.size := by omega
    have hy_w1_w0 : w.heap.size ≤ w1.heap.size := by omega
    have hx_w1_w0 : ∀ n : Nat, w.heap.size < w1.heap.size + n := by intro n; omega
    have hv_w1_w0 : ∀ n : Nat, w.heap.size ≤ w1.heap.size + n := by intro n; omega
    have hz_w1_w1 : w.heap.size + 1 < w1.heap.size := by omega
    have hy_w1_w1 : w.heap.size + 1 ≤ w1.heap.size := by omega
    have hx_w1_w1 : ∀ n : Nat, w.heap.size + 1 < w1.heap.size + n := by intro n; omega
    have hv_w1_w1 : ∀ n : Nat, w.heap.size + 1 ≤ w1.heap.size + n := by intro n; omega
    have belz : Below w.heap.size w w1 := by repeat' (first | (with_reducible exact Below.refl _ _) | (with_reducible assumption) | (with_reducible refine Below.alloc ?_ ?_ _) | (with_reducible refine Below.drew ?_) | (with_reducible refine bdrewN ?_ _) | (with_reducible refine Below.setCell ?_ ?_ _) | (with_reducible refine bthen ?_ (by assumption) ?_) | go_size)
    go_wp2
    refine bodyPost_ret (results_five rfl _ _ _) rfl ?_
    exact ⟨rfl, belz⟩
set_option maxHeartbeats 2000000 in
theorem boundsS_any (n d : Int) (w : World) : Calls Try.prog 38 #[.agg #[.int .i64 n, .int .i64 d]] w (Ret w (.tuple #[.int .i64 (boM n d).1.1, .int .i64 (boM n d).1.2, .int .i64 (boM n d).2.1.1, .int .i64 (boM n d).2.1.2, .int .i64 (boM n d).2.2])) := by
  obtain ⟨r, hr⟩ : ∃ r, posC n d = r := ⟨_, rfl⟩
  have H := Lib.hid hr
  by_cases h0 : r = 0
  · subst h0
    obtain ⟨hok, ⟨n1, n2⟩, d1, d2⟩ := pos_facts hr
    obtain ⟨i, l, hL, E⟩ := ex_all n1 n2 d1 d2
    have kP := fun w => l05Path_any n d n1 n2 d1 d2 i l hL E w
    have hS := sm_path hr
    have hM : boM n d = (bnP (ptP n d), bnR (ptP n d), 0) := by unfold boM; rw [if_pos hr]
    rw [pt_of hr hL] at hS hM
    rw [hM]
    generalize pthL i l = s at *
    have kB := fun v w h => l05Bounds_any v s.length s w h hS
    generalize bnP s = P at *
    generalize bnR s = R at *
    clear hr hL E hok hS hM
    go_enter Try.func38, Try.ntmps38
    go_wp2_with fail
    apply Calls.mono
    · with_reducible exact l05Code_any _ _ 0 H.out _
    rintro _ w1 ⟨rfl, hb_w1⟩
    obtain ⟨hc_w1, hf_w1, hs_w1⟩ := bcell hb_w1
    try simp at hs_w1
    have hz_w1_w0 : w.heap.size < w1.heap.size := by omega
    have hy_w1_w0 : w.heap.size ≤ w1.heap.size := by omega
    have hx_w1_w0 : ∀ n : Nat, w.heap.size < w1.heap.size + n := by intro n; omega
    have hv_w1_w0 : ∀ n : Nat, w.heap.size ≤ w1.heap.size + n := by intro n; omega
    go_wp2_with fail
    apply Calls.mono
    · with_reducible exact kP _
    rintro _ w2 ⟨v2, rfl, ho2, hb_w2⟩
    obtain ⟨hc_w2, hf_w2, hs_w2⟩ := bcell hb_w2
    try simp at hs_w2
    have hz_w2_w0 : w.heap.size < w2.heap.size := by omega
    have hy_w2_w0 : w.heap.size ≤ w2.heap.size := by omega
    have hx_w2_w0 : ∀ n : Nat, w.heap.size < w2.heap.size + n := by intro n; omega
    have hv_w2_w0 : ∀ n : Nat, w.heap.size ≤ w2.heap.size + n := by intro n; omega
    have hbw2 : Below w.heap.size w w2 := by repeat' (first | (with_reducible exact Below.refl _ _) | (with_reducible assumption) | (with_reducible refine Below.alloc ?_ ?_ _) | (with_reducible refine Below.drew ?_) | (with_reducible refine bdrewN ?_ _) | (with_reducible refine Below.setCell ?_ ?_ _) | (with_reducible refine bthen ?_ (by assumption) ?_) | go_size)
    go_wp2_with fail
    apply Calls.mono
    · with_reducible exact kB _ _ (Rd.of_own ho2)
    rintro _ w3 ⟨rfl, hb_w3⟩
    have bel3 := bthen hbw2 hb_w3 hbw2.size
    have bel4 := bel3.alloc bel3.size (.cells #[.int .i64 P.1, .int .i64 P.2, .int .i64 R.1, .int .i64 R.2] 77)
    have hs3 := Nat.lt_of_lt_of_le hz_w2_w0 hb_w3.size
    clear hb_w3 hc_w1 hf_w1 hc_w2 hf_w2 kB kP ho2
    go_wp2_with fail
    refine wp_region_calm (by kernel_rfl) (by kernel_rfl) ?_
    repeat (go_big_quiet_step ((fail)))
    refine wpQuiet_nil ?_
    intro w4 hb_w4
    obtain ⟨hc_w4, hf_w4, hs_w4⟩ := bcell hb_w4
    try simp at hs_w4
    have hz_w4_w0 : w.heap.size < w4.heap.size := by omega
    have hy_w4_w0 : w.heap.size ≤ w4.heap.size := by omega
    have hx_w4_w0 : ∀ n : Nat, w.heap.size < w4.heap.size + n := by intro n; omega
    have hv_w4_w0 : ∀ n : Nat, w.heap.size ≤ w4.heap.size + n := by intro n; omega
    have belz := bthen bel4 hb_w4 (by rw [World.size_alloc]; have := bel3.size; omega)
    go_wp2
    refine bodyPost_ret (results_five rfl _ _ _) rfl ?_
    exact ⟨rfl, belz⟩
  · have hM : boM n d = ((0, 0), (0, 0), r) := by unfold boM; rw [if_neg (by rw [hr]; exact h0), hr]
    rw [hM]
    have hne : (r != 0) = true := by simp [h0]
    clear hr h0 hM
    go_enter Try.func38, Try.ntmps38
    go_wp2_with fail
    apply Calls.mono
    · with_reducible exact l05Code_any _ _ r H.out _
    rintro _ w1 ⟨rfl, hb_w1⟩
    obtain ⟨hc_w1, hf_w1, hs_w1⟩ := bcell hb_w1
    try simp at hs_w1
    have hz_w1_w0 : w.heap.size < w1.heap.size := by omega
    have hy_w1_w0 : w.heap.size ≤ w1.heap.size := by omega
    have hx_w1_w0 : ∀ n : Nat, w.heap.size < w1.heap.size + n := by intro n; omega
    have hv_w1_w0 : ∀ n : Nat, w.heap.size ≤ w1.heap.size + n := by intro n; omega
    have belz : Below w.heap.size w w1 := by repeat' (first | (with_reducible exact Below.refl _ _) | (with_reducible assumption) | (with_reducible refine Below.alloc ?_ ?_ _) | (with_reducible refine Below.drew ?_) | (with_reducible refine bdrewN ?_ _) | (with_reducible refine Below.setCell ?_ ?_ _) | (with_reducible refine bthen ?_ (by assumption) ?_) | go_size)
    go_wp2
    refine bodyPost_ret (results_five rfl _ _ _) rfl ?_
    exact ⟨rfl, belz⟩
end Go.Proofs.Ytlmmpeeacjbobaa
namespace Go.Proofs.Ytlmmpeeacjbobaa
open Go.RowKit

theorem above_div {n d q : Int} (hd : 1 ≤ d) : n * q < (n * q / d + 1) * d := by
  have h := Int.lt_ediv_add_one_mul_self (n * q) (show 0 < d by omega)
  exact h
/-- What holds of the best fraction: it lies above, its denominator is small, no candidate is less. -/
theorem nxt_inv {n d : Int} (h1 : 0 ≤ n) (h2 : n < d) : ∀ Q : Nat, 1 ≤ Q →
    1 ≤ (nxtF n d Q).2 ∧ (nxtF n d Q).2 ≤ (Q : Int) ∧ n * (nxtF n d Q).2 < (nxtF n d Q).1 * d ∧ Int.gcd (nxtF n d Q).1 (nxtF n d Q).2 = 1 ∧ 1 ≤ (nxtF n d Q).1 ∧ (nxtF n d Q).1 ≤ (nxtF n d Q).2 ∧
      ∀ q : Int, 1 ≤ q → q ≤ (Q : Int) → (nxtF n d Q).1 * q ≤ (n * q / d + 1) * (nxtF n d Q).2
  | 0, h => by omega
  | 1, _ => by
    rw [nxt_one n d h1 h2]
    refine ⟨by simp, by simp, by simpa using h2, by simp, by simp, by simp, ?_⟩
    intro q h3 h4
    have : q = 1 := by omega
    subst this
    have := Int.ediv_nonneg (a := n * 1) (b := d) (by omega) (by omega)
    simp only
    omega
  | Q + 2, _ => by
    obtain ⟨i1, i2, i3, i4, i5, i6, i7⟩ := nxt_inv h1 h2 (Q + 1) (by omega)
    have e : nxtF n d (Q + 2) = if (n * (((Q + 1 : Nat) : Int) + 1) / d + 1) * (nxtF n d (Q + 1)).2 < (nxtF n d (Q + 1)).1 * (((Q + 1 : Nat) : Int) + 1) then (n * (((Q + 1 : Nat) : Int) + 1) / d + 1, ((Q + 1 : Nat) : Int) + 1) else nxtF n d (Q + 1) := rfl
    rw [e]
    clear e
    have hQ : ((Q + 2 : Nat) : Int) = ((Q + 1 : Nat) : Int) + 1 := by omega
    rw [hQ]
    generalize hb : nxtF n d (Q + 1) = b at *
    obtain ⟨x, y⟩ := b
    simp only at i1 i2 i3 i4 i5 i6 i7
    generalize hm : ((Q + 1 : Nat) : Int) + 1 = m at *
    have hm1 : 2 ≤ m := by omega
    have ab := above_div (n := n) (q := m) (show 1 ≤ d by omega)
    have hc0 : 0 ≤ n * m / d := Int.ediv_nonneg (Int.mul_nonneg h1 (by omega)) (by omega)
    have hcm : n * m / d + 1 ≤ m := by
      have : n * m / d < m := by
        apply Int.ediv_lt_of_lt_mul (by omega)
        rw [Int.mul_comm m d]
        exact Int.mul_lt_mul_of_pos_right h2 (by omega)
      omega
    generalize hc : n * m / d + 1 = c at *
    by_cases hlt : c * y < x * m
    · rw [if_pos hlt]
      have hlow : Int.gcd c m = 1 := by
        rcases Nat.lt_or_ge 1 (Int.gcd c m) with hg | hg
        · exfalso
          have hgi : (1 : Int) < ((Int.gcd c m : Nat) : Int) := by omega
          obtain ⟨c', hc'⟩ := Int.gcd_dvd_left (a := c) (b := m)
          obtain ⟨m', hm'⟩ := Int.gcd_dvd_right (a := c) (b := m)
          generalize ((Int.gcd c m : Nat) : Int) = g at *
          have hmp : 0 < m' := by
            rcases Int.lt_or_le 0 m' with h | h
            · exact h
            · have := Int.mul_le_mul_of_nonneg_left h (show 0 ≤ g by omega)
              omega
          have hml : m' < m := by
            have := Int.mul_lt_mul_of_pos_right hgi hmp
            omega
          have k1 := i7 m' (by omega) (by omega)
          have k2 : n * m' / d + 1 ≤ c' := by
            have h5 : n * m' < c' * d := by
              have e1 : n * m = g * (n * m') := by rw [hm']; grind
              have e2 : c * d = g * (c' * d) := by rw [hc']; grind
              rw [e1, e2] at ab
              exact Int.lt_of_mul_lt_mul_left ab (by omega)
            have := Int.ediv_lt_of_lt_mul (show 0 < d by omega) h5
            omega
          have k3 : x * m' ≤ c' * y := Int.le_trans k1 (Int.mul_le_mul_of_nonneg_right k2 (by omega))
          have k4 := Int.mul_le_mul_of_nonneg_left k3 (show 0 ≤ g by omega)
          have e3 : g * (x * m') = x * m := by rw [hm']; grind
          have e4 : g * (c' * y) = c * y := by rw [hc']; grind
          omega
        · have : Int.gcd c m ≠ 0 := by
            intro h0
            have := (Int.gcd_eq_zero_iff.1 h0).2
            omega
          omega
      refine ⟨by simp only; omega, by simp only; omega, ab, hlow, by simp only; omega, hcm, ?_⟩
      intro q q1 q2
      simp only
      by_cases hq : q = m
      · subst hq; rw [hc]; exact Int.le_refl _
      · have k1 := i7 q q1 (by omega)
        -- c / m < x / y ≤ (n q / d + 1) / q
        have k2 := Int.mul_lt_mul_of_pos_right hlt (show 0 < q by omega)
        have k3 := Int.mul_le_mul_of_nonneg_right k1 (show 0 ≤ m by omega)
        have e1 : c * y * q = (c * q) * y := by grind
        have e2 : x * m * q = (x * q) * m := by grind
        have e3 : (n * q / d + 1) * y * m = ((n * q / d + 1) * m) * y := by grind
        rw [e1, e2] at k2
        rw [e3] at k3
        have k4 : (c * q) * y < ((n * q / d + 1) * m) * y := Int.lt_of_lt_of_le k2 k3
        have := Int.lt_of_mul_lt_mul_right k4 (by omega)
        omega
    · rw [if_neg hlt]
      refine ⟨i1, by simp only; omega, i3, i4, i5, i6, ?_⟩
      intro q q1 q2
      simp only
      by_cases hq : q = m
      · subst hq; rw [hc]; omega
      · exact i7 q q1 (by omega)
/-- What FnNextFarey asks of the next element. -/
theorem next_law {N n d : Int} (h : (nextM N n d).2.2 = 0) (hN : N ≤ 300) :
    okF n d = true ∧ (0 ≤ n ∧ n < d ∧ d ≤ 1000000000) ∧ okF (nextM N n d).1 (nextM N n d).2.1 = true ∧ ((nextM N n d).2.1 ≤ N ∧ 1 ≤ (nextM N n d).1 ∧ (nextM N n d).1 ≤ (nextM N n d).2.1) ∧ n * (nextM N n d).2.1 < (nextM N n d).1 * d ∧
      (1 ≤ N ∧ ∀ q : Int, 1 ≤ q → q ≤ N → (nextM N n d).1 * q ≤ (n * q / d + 1) * (nextM N n d).2.1) := by
  by_cases h0 : chkM N 10000 n d = 0
  · by_cases hnd : n = d
    · unfold nextM at h; rw [if_pos h0, if_pos hnd] at h; simp at h
    · have e : nextM N n d = ((nxtF n d N.toNat).1, (nxtF n d N.toNat).2, 0) := by unfold nextM; rw [if_pos h0, if_neg hnd]
      obtain ⟨a1, a2, a3, a4, a5⟩ := chk_zero h0
      obtain ⟨b1, b2, b3, b4⟩ := okF_bd a5
      rw [e]
      obtain ⟨i1, i2, i3, i4, i5, i6, i7⟩ := nxt_inv (n := n) (d := d) a3 (by omega) N.toNat (by omega)
      simp only
      refine ⟨a5, ⟨a3, by omega, b2⟩, okF_iff.2 ⟨⟨i1, by omega⟩, ⟨by omega, by omega⟩, i4⟩, ⟨by omega, i5, i6⟩, i3, a1, fun q q1 q2 => i7 q q1 (by omega)⟩
  · unfold nextM at h; rw [if_neg h0] at h; exact absurd h h0
end Go.Proofs.Ytlmmpeeacjbobaa
namespace Go.Proofs.Ytlmmpeeacjbobaa
open Go.RowKit

/-- The first path's steps are a beginning of the second one's. -/
def SP : List Int → List Int → Prop
  | [], _ => True
  | _ :: _, [] => False
  | x :: xs, y :: ys => (xs = [] ∧ x ≤ y) ∨ (x = y ∧ SP xs ys)
theorem cm_nil_l (b : List Int) : cmL [] b = [] := by cases b <;> rfl
theorem cm_sp : ∀ a b : List Int, SP (cmL a b) a
  | [], b => by rw [cm_nil_l]; trivial
  | x :: xs, [] => trivial
  | x :: xs, y :: ys => by
    unfold cmL
    by_cases h : x = y
    · subst h
      rw [if_pos rfl, Int.min_self]
      exact .inr ⟨rfl, cm_sp xs ys⟩
    · rw [if_neg h]
      exact .inl ⟨rfl, Int.min_le_left x y⟩
theorem sp_cm : ∀ s a : List Int, SP s a → cmL s a = s
  | [], a, _ => cm_nil_l a
  | x :: xs, [], h => h.elim
  | x :: xs, y :: ys, h => by
    unfold cmL
    rcases h with ⟨rfl, hxy⟩ | ⟨rfl, h⟩
    · rw [cm_nil_l, ite_self, Int.min_eq_left hxy]
    · rw [if_pos rfl, Int.min_self, sp_cm xs ys h]
theorem val_pos : ∀ {a : List Int}, (∀ t ∈ a, 0 ≤ t) → 1 ≤ (mtx a).1.1 + (mtx a).2.1 ∧ 1 ≤ (mtx a).1.2 + (mtx a).2.2
  | [], _ => by simp [mtx]
  | t :: a, h => by
    obtain ⟨h1, h2⟩ := val_pos (a := a) (fun s hs => h s (List.mem_cons_of_mem _ hs))
    have ht := h t (by simp)
    rw [mtx_cons]
    simp only
    have m := Int.mul_nonneg ht (show 0 ≤ (mtx a).1.1 + (mtx a).2.1 by omega)
    rw [Int.mul_add] at m
    omega
/-- The value of a beginning lies below that of the whole path. -/
theorem sp_val : ∀ (j : List Int) (m : Int) (a : List Int), SP (j ++ [m]) a → (∀ t ∈ a, 0 ≤ t) → 0 ≤ m → (∀ t ∈ j, 0 ≤ t) →
    (mtx (j ++ [m + 1])).1.1 ≤ (mtx a).1.1 + (mtx a).2.1 ∧ (mtx (j ++ [m + 1])).1.2 ≤ (mtx a).1.2 + (mtx a).2.2
  | [], m, [], h, _, _, _ => h.elim
  | x :: xs, m, [], h, _, _, _ => h.elim
  | [], m, y :: ys, h, ha, hm, _ => by
    have hy := ha y (by simp)
    obtain ⟨v1, v2⟩ := val_pos (a := ys) (fun s hs => ha s (List.mem_cons_of_mem _ hs))
    have hmy : m ≤ y := by
      rcases h with ⟨_, h⟩ | ⟨h, _⟩
      · exact h
      · omega
    rw [List.nil_append, (mtx_one1 (m + 1)).1, mtx_cons]
    simp only
    have k := Int.mul_le_mul_of_nonneg_left v1 hy
    rw [Int.mul_add, Int.mul_one] at k
    omega
  | x :: xs, m, y :: ys, h, ha, hm, hj => by
    have hy := ha y (by simp)
    have h' : x = y ∧ SP (xs ++ [m]) ys := by
      rcases h with ⟨h, _⟩ | h
      · simp at h
      · exact h
    obtain ⟨rfl, h2⟩ := h'
    obtain ⟨i1, i2⟩ := sp_val xs m ys h2 (fun s hs => ha s (List.mem_cons_of_mem _ hs)) hm (fun s hs => hj s (List.mem_cons_of_mem _ hs))
    rw [List.cons_append, mtx_cons, mtx_cons]
    simp only
    have k := Int.mul_le_mul_of_nonneg_left i1 hy
    rw [Int.mul_add] at k
    omega
theorem co_facts {n d m e : Int} (h : (caC n d m e).2.2 = 0) : posC n d = 0 ∧ okR (coL (ptP n d) (ptP m e)) = true ∧ faB (coL (ptP n d) (ptP m e)) = true ∧ SP (coL (ptP n d) (ptP m e)) (ptP n d) ∧ trL (coL (ptP n d) (ptP m e)) = coL (ptP n d) (ptP m e) ∧
    caC n d m e = ((faM (coL (ptP n d) (ptP m e))).1, (faM (coL (ptP n d) (ptP m e))).2, 0) := by
  by_cases hT : posT n d m e = 0
  · obtain ⟨p1, p2⟩ := posT_zero hT
    obtain ⟨hok, ⟨n1, n2⟩, d1, d2⟩ := pos_facts p1
    obtain ⟨hok', ⟨m1, m2⟩, e1, e2⟩ := pos_facts p2
    obtain ⟨i, l, hL, E⟩ := ex_all n1 n2 d1 d2
    obtain ⟨i', l', hL', E'⟩ := ex_all m1 m2 e1 e2
    obtain ⟨c1, c2, _⟩ := child_parent p1
    have okA := pth_ok E
    have okB := pth_ok E'
    have hM := ca_of hT hL hL'
    rw [← pt_of p1 hL] at okA hM
    rw [← pt_of p2 hL'] at okB hM
    rw [hM]
    have hsp := cm_sp (ptP n d) (ptP m e)
    have hc := cm_ok okA okB
    generalize ptP n d = pa at *
    generalize ptP m e = pb at *
    have hs : coL pa pb = if cmL pa pb = [0] then [] else cmL pa pb := trl_pth hc
    generalize coL pa pb = s at *
    generalize cmL pa pb = q at *
    by_cases hq : q = [0]
    · rw [if_pos hq] at hs
      subst hs
      exact ⟨p1, by decide, by decide, trivial, by decide, rfl⟩
    · rw [if_neg hq] at hs
      subst hs
      have htr : trL s = s := by rw [trl_pth hc, if_neg hq]
      by_cases h0 : s = []
      · subst h0
        exact ⟨p1, by decide, by decide, trivial, by decide, rfl⟩
      · obtain ⟨j, x, rfl⟩ := snoc_of h0
        have hx := hc.bd x (by simp)
        have hj : ∀ t ∈ j, 0 ≤ t ∧ t ≤ 999999999 := fun t ht => hc.bd t (List.mem_append_left _ ht)
        have hj1 : ∀ t ∈ j.drop 1, 1 ≤ t := fun t ht => hc.tl t (by
          cases j with
          | nil => simp at ht
          | cons y j => simp only [List.cons_append, List.drop_one, List.tail_cons] at ht ⊢; exact List.mem_append_left _ ht)
        have hx1 : 1 ≤ x := by
          cases j with
          | nil =>
            have : x ≠ 0 := fun e => hq (by rw [e]; rfl)
            omega
          | cons y j => exact hc.tl x (by simp)
        have hlen := hc.len
        rw [List.length_append, List.length_singleton] at hlen
        have hN : Nrm j (x + 1) := ⟨fun t ht => (hj t ht).1, hj1, fun _ => by omega, fun _ => by omega⟩
        obtain ⟨v1, v2⟩ := sp_val j x pa hsp (fun t ht => (okA.bd t ht).1) (by omega) (fun t ht => (hj t ht).1)
        obtain ⟨_, f2⟩ := fa_snoc j x
        refine ⟨p1, okR_snoc.2 ⟨fun t ht => by have := hj t ht; omega, hj1, by omega, hlen⟩, ?_, hsp, htr, rfl⟩
        rw [f2, ca_nrm hN (by omega) (by omega)]
  · unfold caC at h; rw [if_neg hT] at h; exact absurd h hT
/-- The common ancestor of the common ancestor and the first fraction is itself. -/
theorem co_law {n d m e : Int} (h : (caC n d m e).2.2 = 0) : caC (caC n d m e).1 (caC n d m e).2.1 n d = ((caC n d m e).1, (caC n d m e).2.1, 0) := by
  obtain ⟨p1, o1, o2, o3, o4, o5⟩ := co_facts h
  rw [o5]
  simp only
  obtain ⟨q1, q2⟩ := fp_path o1 o2
  generalize hs : coL (ptP n d) (ptP m e) = s at *
  generalize hx : (faM s).1 = x at *
  generalize hy : (faM s).2 = y at *
  have hT : posT x y n d = 0 := by
    obtain ⟨k1, ⟨k2, _⟩, _⟩ := pos_facts q1
    obtain ⟨l1, ⟨l2, _⟩, _⟩ := pos_facts p1
    unfold posT
    rw [if_pos ⟨k1, l1⟩, if_pos ⟨k2, l2⟩]
  obtain ⟨_, ⟨a1, a2⟩, a3, a4⟩ := pos_facts q1
  obtain ⟨_, ⟨b1, b2⟩, b3, b4⟩ := pos_facts p1
  obtain ⟨i, l, hL, E⟩ := ex_all a1 a2 a3 a4
  obtain ⟨i', l', hL', E'⟩ := ex_all b1 b2 b3 b4
  rw [ca_of hT hL hL', ← pt_of q1 hL, ← pt_of p1 hL', q2]
  have : coL s (ptP n d) = s := by
    unfold coL
    rw [sp_cm s _ o3, o4]
  rw [this, hx, hy]
end Go.Proofs.Ytlmmpeeacjbobaa
namespace Go.Proofs.Ytlmmpeeacjbobaa
open Go.RowKit

theorem run_neF (a b d e : Int) (r : Bool) (hr : (!(a == d && b == e)) = r) (w : World) : (binOp .neq 24 (.agg #[.int .i64 a, .int .i64 b]) (.agg #[.int .i64 d, .int .i64 e])).run Try.prog w = .ok (.bool r) w := by
  rw [run_neq_struct, run_equalIn_struct (P := Try.prog) w 9999 24 _ _ Try.fieldsF Try.heldF]
  obtain ⟨f1, f2, hl, n1, n2, t1, t2, o1, o2⟩ := fields2 Try.listF
  subst hr
  rw [hl, run_eqFields2 Try.underlying2 Try.plainI (by rw [n1]; decide) (by rw [n2]; decide) t1 t2 o1 o2 9998]
  rfl
def F6fR (w : World) (n : Nat) (k : Nat) (i : Value) (wr : World) : Prop :=
  ∃ j : Nat, j ≤ n ∧ n ≤ j + k ∧ i = .int .i64 j ∧ Below w.heap.size w wr
set_option maxHeartbeats 1000000 in
theorem f6fractions_same (v v' : Value) (n : Nat) (xs : List (Int × Int)) (w : World) (hv : Rd w 2 v n (prs xs)) (hv' : Rd w 2 v' n (prs xs)) :
    Calls Try.prog 57 #[v, v'] w (Ret w (.bool true)) := by
  obtain ⟨hl1, hm1⟩ := rd_len hv
  obtain ⟨A, c, rfl, hn1, hc1, _, hr1⟩ := hv
  obtain ⟨A', c', rfl, hn2, hc2, _, hr2⟩ := hv'
  rw [prs_len] at hl1
  have L1 := Lib.hid (show xs.length = n by omega)
  have R1 := Lib.hid hr1
  have R2 := Lib.hid hr2
  clear hl1 hr1 hr2
  go_enter Try.func57, Try.ntmps57
  go_wp2_with fail
  go_loopg [5] n (F6fR w n)
  case atStart => exact ⟨0, by omega, by omega, rfl, Below.refl _ _⟩
  case round =>
    obtain ⟨j, hj1, hj2, rfl, hbw⟩ := hrel
    have hs := hbw.size
    by_cases hjn : j < n
    · obtain ⟨⟨y1, y2⟩, hy⟩ := get_ex (l := xs) (k := j) (by have := L1.out; omega)
      obtain ⟨i1, i2⟩ := prs_get hy
      simp only at i1 i2
      rcases R1.out with h0 | ⟨g, o, rfl, hg, hcell⟩
      · omega
      rcases R2.out with h0 | ⟨g', o', rfl, hg', hcell'⟩
      · omega
      have c1 : wr.cell? ⟨g, o + j * 2, none⟩ = some (.int .i64 y1) := (hbw.cell (p := ⟨g, o + j * 2, none⟩) hg).trans (hcell (j * 2) _ i1)
      have c2 : wr.cell? ⟨g, o + j * 2 + 1, none⟩ = some (.int .i64 y2) := (hbw.cell (p := ⟨g, o + j * 2 + 1, none⟩) hg).trans (hcell (j * 2 + 1) _ i2)
      have c3 : wr.cell? ⟨g', o' + j * 2, none⟩ = some (.int .i64 y1) := (hbw.cell (p := ⟨g', o' + j * 2, none⟩) hg').trans (hcell' (j * 2) _ i1)
      have c4 : wr.cell? ⟨g', o' + j * 2 + 1, none⟩ = some (.int .i64 y2) := (hbw.cell (p := ⟨g', o' + j * 2 + 1, none⟩) hg').trans (hcell' (j * 2 + 1) _ i2)
      have hgw : g < wr.heap.size := by omega
      have hgw' : g' < wr.heap.size := by omega
      have hjn' : (j : Int) < (n : Int) := by omega
      have kNe := run_neF y1 y2 y1 y2 false (by simp)
      have kGd := run_guardF .neq
      clear hy i1 i2 hcell hcell' R1 R2
      go_wp2_with fail
      refine wp_region_calm (by kernel_rfl) (by kernel_rfl) ?_
      repeat (go_big_quiet_step ((fail)))
      refine wpQuiet_nil ?_
      intro w1 hb_w1
      obtain ⟨hc_w1, hf_w1, hs_w1⟩ := bcell hb_w1
      try simp at hs_w1
      have belz := bthen hbw hb_w1 hs
      go_wp2
      go_roundg (gk - 1)
      case measure => omega
      case rel => exact ⟨j + 1, by omega, by omega, by go_num, belz⟩
    · obtain rfl : j = n := by omega
      go_wp2
      go_ret
      refine ⟨by first | rfl | (simp), ?_⟩
      repeat' (first | (with_reducible exact Below.refl _ _) | (with_reducible assumption) | (with_reducible refine Below.alloc ?_ ?_ _) | (with_reducible refine Below.drew ?_) | (with_reducible refine bdrewN ?_ _) | (with_reducible refine Below.setCell ?_ ?_ _) | (with_reducible refine bthen ?_ (by assumption) ?_) | go_size)
end Go.Proofs.Ytlmmpeeacjbobaa
namespace Go.Proofs.Ytlmmpeeacjbobaa
open Go.RowKit

/-- IsAncestor. -/
def iaM (n d m e : Int) : Bool × Int := if posT n d m e = 0 then (((caC n d m e).1 == n && (caC n d m e).2.1 == d) && !(n == m && d == e), 0) else (false, posT n d m e)
set_option maxHeartbeats 4000000 in
set_option maxRecDepth 100000 in
theorem isAncI_any (n d m e : Int) (w : World) : Calls Try.prog 34 #[.agg #[.int .i64 n, .int .i64 d], .agg #[.int .i64 m, .int .i64 e]] w (Ret w (.tuple #[.bool (iaM n d m e).1, .int .i64 (iaM n d m e).2])) := by
  obtain ⟨r, hr⟩ : ∃ r, posT n d m e = r := ⟨_, rfl⟩
  have H := Lib.hid (posT_two 2 rfl hr)
  by_cases h0 : r = 0
  · subst h0
    obtain ⟨p1, p2⟩ := posT_zero hr
    obtain ⟨hok, ⟨n1, n2⟩, d1, d2⟩ := pos_facts p1
    obtain ⟨hok', ⟨m1, m2⟩, e1, e2⟩ := pos_facts p2
    obtain ⟨i, l, hL, E⟩ := ex_all n1 n2 d1 d2
    obtain ⟨i', l', hL', E'⟩ := ex_all m1 m2 e1 e2
    have hM : iaM n d m e = (((faM (coL (pthL i l) (pthL i' l'))).1 == n && (faM (coL (pthL i l) (pthL i' l'))).2 == d) && !(n == m && d == e), 0) := by unfold iaM; rw [if_pos hr, ca_of hr hL hL']
    have kPa := fun w => pathTo_any n d n1 n2 d1 d2 i l hL E w
    have kPb := fun w => pathTo_any m e m1 m2 e1 e2 i' l' hL' E' w
    have okA := pth_ok E
    have okB := pth_ok E'
    rw [hM]
    generalize pthL i l = pa at *
    generalize pthL i' l' = pb at *
    have hFa := co_fa okA okB
    have kCm := fun v1 v2 w h1 h2 => commonPath_any v1 v2 pa.length pb.length pa pb w h1 h2 okA.len okB.len
    have kFa := fun v w hv => fractionAt_fa v (coL pa pb) w hv hFa
    generalize (faM (coL pa pb)).1 = X at *
    generalize (faM (coL pa pb)).2 = Y at *
    generalize faB (coL pa pb) = fb at *
    obtain ⟨M, hMM⟩ : ∃ M, ((X == n && Y == d) && !(n == m && d == e)) = M := ⟨_, rfl⟩
    rw [hMM]
    have HMM := Lib.hid hMM
    clear hMM
    clear hM hr hL hL' E E' hok hok' p1 p2 okA okB hFa n1 n2 d1 d2 m1 m2 e1 e2
    go_enter Try.func34, Try.ntmps34
    go_wp2_with fail
    apply Calls.mono
    · with_reducible exact checkPositive_any 2 2 _ (xsT n m) (xsT d e) (by omega) (by omega) (by omega) _ (by simp) (by intro j hj; obtain rfl | rfl : j = 0 ∨ j = 1 := (by omega); exact ⟨(blk_at2' w _ _ _ _).cell 0, (blk_at2' w _ _ _ _).cell 1⟩; exact ⟨(blk_at2' w _ _ _ _).cell 2, (blk_at2' w _ _ _ _).cell 3⟩) 0 H.out
    rintro _ w1 ⟨rfl, hb_w1⟩
    obtain ⟨hc_w1, hf_w1, hs_w1⟩ := bcell hb_w1
    try simp at hs_w1
    have hz_w1_w0 : w.heap.size < w1.heap.size := by omega
    have hy_w1_w0 : w.heap.size ≤ w1.heap.size := by omega
    have hx_w1_w0 : ∀ n : Nat, w.heap.size < w1.heap.size + n := by intro n; omega
    have hv_w1_w0 : ∀ n : Nat, w.heap.size ≤ w1.heap.size + n := by intro n; omega
    have hz_w1_w1 : w.heap.size + 1 < w1.heap.size := by omega
    have hy_w1_w1 : w.heap.size + 1 ≤ w1.heap.size := by omega
    have hx_w1_w1 : ∀ n : Nat, w.heap.size + 1 < w1.heap.size + n := by intro n; omega
    have hv_w1_w1 : ∀ n : Nat, w.heap.size + 1 ≤ w1.heap.size + n := by intro n; omega
    have hz_w1_w2 : w.heap.size + 2 < w1.heap.size := by omega
    have hy_w1_w2 : w.heap.size + 2 ≤ w1.heap.size := by omega
    have hx_w1_w2 : ∀ n : Nat, w.heap.size + 2 < w1.heap.size + n := by intro n; omega
    have hv_w1_w2 : ∀ n : Nat, w.heap.size + 2 ≤ w1.heap.size + n := by intro n; omega
    have hA0 : Blk (((w.alloc (.cells #[.int .i64 n, .int .i64 d] 24)).alloc (.cells #[.int .i64 m, .int .i64 e] 24)).alloc (.cells #[.int .i64 n, .int .i64 d, .int .i64 m, .int .i64 e] 24)) (w.heap.size) 24 #[.int .i64 n, .int .i64 d] := ((Blk.new w _ _).alloc _).alloc _
    have hC0 : Blk (((w.alloc (.cells #[.int .i64 n, .int .i64 d] 24)).alloc (.cells #[.int .i64 m, .int .i64 e] 24)).alloc (.cells #[.int .i64 n, .int .i64 d, .int .i64 m, .int .i64 e] 24)) (w.heap.size + 1) 24 #[.int .i64 m, .int .i64 e] := (blk_at1' w _ _ _).alloc _
    have hA := hA0.below hb_w1 hA0.lt
    have hC := hC0.below hb_w1 hC0.lt
    have bel1 : Below w.heap.size w w1 := by repeat' (first | (with_reducible exact Below.refl _ _) | (with_reducible assumption) | (with_reducible refine Below.alloc ?_ ?_ _) | (with_reducible refine Below.drew ?_) | (with_reducible refine bdrewN ?_ _) | (with_reducible refine Below.setCell ?_ ?_ _) | (with_reducible refine bthen ?_ (by assumption) ?_) | go_size)
    obtain ⟨W, hW⟩ : ∃ W, W = w1 := ⟨_, rfl⟩
    subst hW
    clear hA0 hC0 hb_w1 hc_w1 hf_w1
    have kA0 : ∀ wx, Below W.heap.size W wx → Calls Try.prog 63 #[.agg #[.int .i64 n, .int .i64 d]] wx (fun e' w' => ∃ v1, e' = .returned v1 ∧ w'.ownsRow W.heap.size 2 1 v1 pa.length (ints pa) ∧ Below W.heap.size W w') := fun wx hb => (kPa wx).mono fun e' w' ⟨v1, h1, h2, h3⟩ => (by exact ⟨v1, h1, own_base h2 hb.size, bthen hb h3 hb.size⟩)
    have kA0' : ∀ wx g, Below W.heap.size W wx → Blk wx g 24 #[.int .i64 0, .int .i64 0] → W.heap.size ≤ g → Calls Try.prog 63 #[.agg #[.int .i64 n, .int .i64 d]] wx (fun e' w' => ∃ v1, e' = .returned v1 ∧ w'.ownsRow W.heap.size 2 1 v1 pa.length (ints pa) ∧ Below W.heap.size W w' ∧ Blk w' g 24 #[.int .i64 0, .int .i64 0] ∧ W.heap.size ≤ g ∧ (w'.cell? ⟨g, 0, none⟩ = some (.int .i64 0) ∧ w'.cell? ⟨g, 1, none⟩ = some (.int .i64 0) ∧ w'.frozen? ⟨g, 0, none⟩ = false ∧ w'.frozen? ⟨g, 1, none⟩ = false) ∧ g < w'.heap.size) := fun wx g hb hN hg => (kPa wx).mono fun e' w' ⟨v1, h1, h2, h3⟩ => (by have hn := hN.below h3 hN.lt; exact ⟨v1, h1, own_base h2 hb.size, bthen hb h3 hb.size, hn, hg, ⟨hn.cell 0, hn.cell 1, hn.frozen 0, hn.frozen 1⟩, hn.lt⟩)
    have kA1 : ∀ wx v2, Below W.heap.size W wx → wx.ownsRow W.heap.size 2 1 v2 pb.length (ints pb) → Calls Try.prog 63 #[.agg #[.int .i64 n, .int .i64 d]] wx (fun e' w' => ∃ v1, e' = .returned v1 ∧ w'.ownsRow W.heap.size 2 1 v1 pa.length (ints pa) ∧ Below W.heap.size W w' ∧ w'.ownsRow W.heap.size 2 1 v2 pb.length (ints pb)) := fun wx v2 hb ho => (kPa wx).mono fun e' w' ⟨v1, h1, h2, h3⟩ => (by exact ⟨v1, h1, own_base h2 hb.size, bthen hb h3 hb.size, own_below ho h3 (Nat.le_refl _)⟩)
    have kA1' : ∀ wx v2 g, Below W.heap.size W wx → wx.ownsRow W.heap.size 2 1 v2 pb.length (ints pb) → Blk wx g 24 #[.int .i64 0, .int .i64 0] → W.heap.size ≤ g → Calls Try.prog 63 #[.agg #[.int .i64 n, .int .i64 d]] wx (fun e' w' => ∃ v1, e' = .returned v1 ∧ w'.ownsRow W.heap.size 2 1 v1 pa.length (ints pa) ∧ Below W.heap.size W w' ∧ w'.ownsRow W.heap.size 2 1 v2 pb.length (ints pb) ∧ Blk w' g 24 #[.int .i64 0, .int .i64 0] ∧ W.heap.size ≤ g ∧ (w'.cell? ⟨g, 0, none⟩ = some (.int .i64 0) ∧ w'.cell? ⟨g, 1, none⟩ = some (.int .i64 0) ∧ w'.frozen? ⟨g, 0, none⟩ = false ∧ w'.frozen? ⟨g, 1, none⟩ = false) ∧ g < w'.heap.size) := fun wx v2 g hb ho hN hg => (kPa wx).mono fun e' w' ⟨v1, h1, h2, h3⟩ => (by have hn := hN.below h3 hN.lt; exact ⟨v1, h1, own_base h2 hb.size, bthen hb h3 hb.size, own_below ho h3 (Nat.le_refl _), hn, hg, ⟨hn.cell 0, hn.cell 1, hn.frozen 0, hn.frozen 1⟩, hn.lt⟩)
    have kB0 : ∀ wx, Below W.heap.size W wx → Calls Try.prog 63 #[.agg #[.int .i64 m, .int .i64 e]] wx (fun e' w' => ∃ v1, e' = .returned v1 ∧ w'.ownsRow W.heap.size 2 1 v1 pb.length (ints pb) ∧ Below W.heap.size W w') := fun wx hb => (kPb wx).mono fun e' w' ⟨v1, h1, h2, h3⟩ => (by exact ⟨v1, h1, own_base h2 hb.size, bthen hb h3 hb.size⟩)
    have kB0' : ∀ wx g, Below W.heap.size W wx → Blk wx g 24 #[.int .i64 0, .int .i64 0] → W.heap.size ≤ g → Calls Try.prog 63 #[.agg #[.int .i64 m, .int .i64 e]] wx (fun e' w' => ∃ v1, e' = .returned v1 ∧ w'.ownsRow W.heap.size 2 1 v1 pb.length (ints pb) ∧ Below W.heap.size W w' ∧ Blk w' g 24 #[.int .i64 0, .int .i64 0] ∧ W.heap.size ≤ g ∧ (w'.cell? ⟨g, 0, none⟩ = some (.int .i64 0) ∧ w'.cell? ⟨g, 1, none⟩ = some (.int .i64 0) ∧ w'.frozen? ⟨g, 0, none⟩ = false ∧ w'.frozen? ⟨g, 1, none⟩ = false) ∧ g < w'.heap.size) := fun wx g hb hN hg => (kPb wx).mono fun e' w' ⟨v1, h1, h2, h3⟩ => (by have hn := hN.below h3 hN.lt; exact ⟨v1, h1, own_base h2 hb.size, bthen hb h3 hb.size, hn, hg, ⟨hn.cell 0, hn.cell 1, hn.frozen 0, hn.frozen 1⟩, hn.lt⟩)
    have kB1 : ∀ wx v2, Below W.heap.size W wx → wx.ownsRow W.heap.size 2 1 v2 pa.length (ints pa) → Calls Try.prog 63 #[.agg #[.int .i64 m, .int .i64 e]] wx (fun e' w' => ∃ v1, e' = .returned v1 ∧ w'.ownsRow W.heap.size 2 1 v1 pb.length (ints pb) ∧ Below W.heap.size W w' ∧ w'.ownsRow W.heap.size 2 1 v2 pa.length (ints pa)) := fun wx v2 hb ho => (kPb wx).mono fun e' w' ⟨v1, h1, h2, h3⟩ => (by exact ⟨v1, h1, own_base h2 hb.size, bthen hb h3 hb.size, own_below ho h3 (Nat.le_refl _)⟩)
    have kB1' : ∀ wx v2 g, Below W.heap.size W wx → wx.ownsRow W.heap.size 2 1 v2 pa.length (ints pa) → Blk wx g 24 #[.int .i64 0, .int .i64 0] → W.heap.size ≤ g → Calls Try.prog 63 #[.agg #[.int .i64 m, .int .i64 e]] wx (fun e' w' => ∃ v1, e' = .returned v1 ∧ w'.ownsRow W.heap.size 2 1 v1 pb.length (ints pb) ∧ Below W.heap.size W w' ∧ w'.ownsRow W.heap.size 2 1 v2 pa.length (ints pa) ∧ Blk w' g 24 #[.int .i64 0, .int .i64 0] ∧ W.heap.size ≤ g ∧ (w'.cell? ⟨g, 0, none⟩ = some (.int .i64 0) ∧ w'.cell? ⟨g, 1, none⟩ = some (.int .i64 0) ∧ w'.frozen? ⟨g, 0, none⟩ = false ∧ w'.frozen? ⟨g, 1, none⟩ = false) ∧ g < w'.heap.size) := fun wx v2 g hb ho hN hg => (kPb wx).mono fun e' w' ⟨v1, h1, h2, h3⟩ => (by have hn := hN.below h3 hN.lt; exact ⟨v1, h1, own_base h2 hb.size, bthen hb h3 hb.size, own_below ho h3 (Nat.le_refl _), hn, hg, ⟨hn.cell 0, hn.cell 1, hn.frozen 0, hn.frozen 1⟩, hn.lt⟩)
    have kC : ∀ wx v1 v2, Below W.heap.size W wx → wx.ownsRow W.heap.size 2 1 v1 pa.length (ints pa) → wx.ownsRow W.heap.size 2 1 v2 pb.length (ints pb) → Calls Try.prog 68 #[v1, v2] wx (fun e' w' => ∃ v3, e' = .returned v3 ∧ Rs w' 1 v3 (coL pa pb).length (ints (coL pa pb)) ∧ Below W.heap.size W w') := fun wx v1 v2 hb h1 h2 => (kCm v1 v2 wx (Rs.of_own h1) (Rs.of_own h2)).mono fun e' w' ⟨v3, q1, q2, q3⟩ => (by exact ⟨v3, q1, q2, bthen hb q3 hb.size⟩)
    have kD : ∀ wx v3, Below W.heap.size W wx → Rs wx 1 v3 (coL pa pb).length (ints (coL pa pb)) → Calls Try.prog 64 #[v3] wx (fun e' w' => e' = .returned (.tuple #[.agg #[.int .i64 X, .int .i64 Y], .bool fb]) ∧ Below W.heap.size W w') := fun wx v3 hb h3 => (kFa v3 wx h3).mono fun e' w' h => (by exact ⟨h.1, bthen hb h.2 hb.size⟩)
    have kC' : ∀ wx v1 v2 g, Below W.heap.size W wx → wx.ownsRow W.heap.size 2 1 v1 pa.length (ints pa) → wx.ownsRow W.heap.size 2 1 v2 pb.length (ints pb) → Blk wx g 24 #[.int .i64 0, .int .i64 0] → W.heap.size ≤ g → Calls Try.prog 68 #[v1, v2] wx (fun e' w' => ∃ v3, e' = .returned v3 ∧ Rs w' 1 v3 (coL pa pb).length (ints (coL pa pb)) ∧ Below W.heap.size W w' ∧ Blk w' g 24 #[.int .i64 0, .int .i64 0] ∧ W.heap.size ≤ g ∧ (w'.cell? ⟨g, 0, none⟩ = some (.int .i64 0) ∧ w'.cell? ⟨g, 1, none⟩ = some (.int .i64 0) ∧ w'.frozen? ⟨g, 0, none⟩ = false ∧ w'.frozen? ⟨g, 1, none⟩ = false) ∧ g < w'.heap.size) := fun wx v1 v2 g hb h1 h2 hN hg => (kCm v1 v2 wx (Rs.of_own h1) (Rs.of_own h2)).mono fun e' w' ⟨v3, q1, q2, q3⟩ => (by have hn := hN.below q3 hN.lt; exact ⟨v3, q1, q2, bthen hb q3 hb.size, hn, hg, ⟨hn.cell 0, hn.cell 1, hn.frozen 0, hn.frozen 1⟩, hn.lt⟩)
    have kD' : ∀ wx v3 g, Below W.heap.size W wx → Rs wx 1 v3 (coL pa pb).length (ints (coL pa pb)) → Blk wx g 24 #[.int .i64 0, .int .i64 0] → W.heap.size ≤ g → Calls Try.prog 64 #[v3] wx (fun e' w' => e' = .returned (.tuple #[.agg #[.int .i64 X, .int .i64 Y], .bool fb]) ∧ Below W.heap.size W w' ∧ Blk w' g 24 #[.int .i64 0, .int .i64 0] ∧ W.heap.size ≤ g ∧ (w'.cell? ⟨g, 0, none⟩ = some (.int .i64 0) ∧ w'.cell? ⟨g, 1, none⟩ = some (.int .i64 0) ∧ w'.frozen? ⟨g, 0, none⟩ = false ∧ w'.frozen? ⟨g, 1, none⟩ = false) ∧ g < w'.heap.size) := fun wx v3 g hb h3 hN hg => (kFa v3 wx h3).mono fun e' w' h => (by have hn := hN.below h.2 hN.lt; exact ⟨h.1, bthen hb h.2 hb.size, hn, hg, ⟨hn.cell 0, hn.cell 1, hn.frozen 0, hn.frozen 1⟩, hn.lt⟩)
    have KS : ∀ wx, Below W.heap.size W wx → wx.cell? ⟨w.heap.size, 0, none⟩ = some (.int .i64 n) ∧ wx.cell? ⟨w.heap.size, 1, none⟩ = some (.int .i64 d) ∧ wx.cell? ⟨w.heap.size + 1, 0, none⟩ = some (.int .i64 m) ∧ wx.cell? ⟨w.heap.size + 1, 1, none⟩ = some (.int .i64 e) := fun wx hb => by
      have g1 := hA.below hb hA.lt
      have g2 := hC.below hb hC.lt
      exact ⟨g1.cell 0, g1.cell 1, g2.cell 0, g2.cell 1⟩
    obtain ⟨l1, l2, l3, l4⟩ := KS W (Below.refl _ _)
    go_upto_region 4 with fail
    go_cut [7, 8] from 16 (fun s7 s8 wx => ∃ g7, s7 = .pointer (some ⟨g7, 0, none⟩) ∧ s8 = .bool fb ∧ Blk wx g7 24 #[.int .i64 X, .int .i64 Y] ∧ Below W.heap.size W wx ∧ W.heap.size ≤ g7)
    case first =>
      go_region_held3 (fun wx => wx.cell? ⟨w.heap.size, 0, none⟩ = some (.int .i64 n) ∧ wx.cell? ⟨w.heap.size, 1, none⟩ = some (.int .i64 d) ∧ wx.cell? ⟨w.heap.size + 1, 0, none⟩ = some (.int .i64 m) ∧ wx.cell? ⟨w.heap.size + 1, 1, none⟩ = some (.int .i64 e))
        (first | exact KS _ bx | exact KS _ (bx.alloc bx.size _) | exact KS _ ((bx.setCell (p := ⟨_, 0, none⟩) hgN _).setCell (p := ⟨_, 1, none⟩) hgN _) | exact KS _ (Below.refl _ _).drew | exact KS _ ((Below.refl _ _).alloc (Nat.le_refl _) _).drew | go_keep)
        (first
          | (go_at_call_of 63 (Value.agg #[Value.int .i64 n, Value.int .i64 d]); refine (kA1' _ vb _ (by first | exact bx | exact bx.alloc bx.size _ | exact (Below.refl _ _).drew | exact ((Below.refl _ _).alloc (Nat.le_refl _) _).drew) (by first | exact oB | exact oB.alloc _) (by first | exact hN | exact Blk.new _ _ _ | exact (Blk.new _ _ _).drew) (by first | exact hgN | exact bx.size | exact Nat.le_refl _)).mono ?_; rintro _ w2 ⟨va, rfl, oA, bx, oB, hN, hgN, ⟨n1, n2, n3, n4⟩, n5⟩)
          | (go_at_call_of 63 (Value.agg #[Value.int .i64 n, Value.int .i64 d]); refine (kA1 _ vb (by first | exact bx | exact bx.alloc bx.size _ | exact (Below.refl _ _).drew | exact ((Below.refl _ _).alloc (Nat.le_refl _) _).drew) (by first | exact oB | exact oB.alloc _)).mono ?_; rintro _ w2 ⟨va, rfl, oA, bx, oB⟩)
          | (go_at_call_of 63 (Value.agg #[Value.int .i64 n, Value.int .i64 d]); refine (kA0' _ _ (by first | exact bx | exact bx.alloc bx.size _ | exact (Below.refl _ _).drew | exact ((Below.refl _ _).alloc (Nat.le_refl _) _).drew) (by first | exact hN | exact Blk.new _ _ _ | exact (Blk.new _ _ _).drew) (by first | exact hgN | exact bx.size | exact Nat.le_refl _)).mono ?_; rintro _ w2 ⟨va, rfl, oA, bx, hN, hgN, ⟨n1, n2, n3, n4⟩, n5⟩)
          | (go_at_call_of 63 (Value.agg #[Value.int .i64 n, Value.int .i64 d]); refine (kA0 _ (by first | exact bx | exact bx.alloc bx.size _ | exact (Below.refl _ _).drew | exact ((Below.refl _ _).alloc (Nat.le_refl _) _).drew)).mono ?_; rintro _ w2 ⟨va, rfl, oA, bx⟩)
          | (go_at_call_of 63 (Value.agg #[Value.int .i64 m, Value.int .i64 e]); refine (kB1' _ va _ (by first | exact bx | exact bx.alloc bx.size _ | exact (Below.refl _ _).drew | exact ((Below.refl _ _).alloc (Nat.le_refl _) _).drew) (by first | exact oA | exact oA.alloc _) (by first | exact hN | exact Blk.new _ _ _ | exact (Blk.new _ _ _).drew) (by first | exact hgN | exact bx.size | exact Nat.le_refl _)).mono ?_; rintro _ w2 ⟨vb, rfl, oB, bx, oA, hN, hgN, ⟨n1, n2, n3, n4⟩, n5⟩)
          | (go_at_call_of 63 (Value.agg #[Value.int .i64 m, Value.int .i64 e]); refine (kB1 _ va (by first | exact bx | exact bx.alloc bx.size _ | exact (Below.refl _ _).drew | exact ((Below.refl _ _).alloc (Nat.le_refl _) _).drew) (by first | exact oA | exact oA.alloc _)).mono ?_; rintro _ w2 ⟨vb, rfl, oB, bx, oA⟩)
          | (go_at_call_of 63 (Value.agg #[Value.int .i64 m, Value.int .i64 e]); refine (kB0' _ _ (by first | exact bx | exact bx.alloc bx.size _ | exact (Below.refl _ _).drew | exact ((Below.refl _ _).alloc (Nat.le_refl _) _).drew) (by first | exact hN | exact Blk.new _ _ _ | exact (Blk.new _ _ _).drew) (by first | exact hgN | exact bx.size | exact Nat.le_refl _)).mono ?_; rintro _ w2 ⟨vb, rfl, oB, bx, hN, hgN, ⟨n1, n2, n3, n4⟩, n5⟩)
          | (go_at_call_of 63 (Value.agg #[Value.int .i64 m, Value.int .i64 e]); refine (kB0 _ (by first | exact bx | exact bx.alloc bx.size _ | exact (Below.refl _ _).drew | exact ((Below.refl _ _).alloc (Nat.le_refl _) _).drew)).mono ?_; rintro _ w2 ⟨vb, rfl, oB, bx⟩)
          | (go_at_call 68; refine (kC' _ va vb _ (by first | exact bx | exact bx.alloc bx.size _ | exact (Below.refl _ _).drew | exact ((Below.refl _ _).alloc (Nat.le_refl _) _).drew) (by first | exact oA | exact oA.alloc _) (by first | exact oB | exact oB.alloc _) (by first | exact hN | exact Blk.new _ _ _ | exact (Blk.new _ _ _).drew) (by first | exact hgN | exact bx.size | exact Nat.le_refl _)).mono ?_; rintro _ w2 ⟨vc, rfl, oC, bx, hN, hgN, ⟨n1, n2, n3, n4⟩, n5⟩)
          | (go_at_call 68; refine (kC _ va vb (by first | exact bx | exact bx.alloc bx.size _ | exact (Below.refl _ _).drew | exact ((Below.refl _ _).alloc (Nat.le_refl _) _).drew) (by first | exact oA | exact oA.alloc _) (by first | exact oB | exact oB.alloc _)).mono ?_; rintro _ w2 ⟨vc, rfl, oC, bx⟩)
          | (go_at_call 64; refine (kD' _ vc _ (by first | exact bx | exact bx.alloc bx.size _ | exact (Below.refl _ _).drew | exact ((Below.refl _ _).alloc (Nat.le_refl _) _).drew) (by first | exact oC | exact oC.alloc _) (by first | exact hN | exact Blk.new _ _ _ | exact (Blk.new _ _ _).drew) (by first | exact hgN | exact bx.size | exact Nat.le_refl _)).mono ?_; rintro _ w2 ⟨rfl, bx, hN, hgN, ⟨n1, n2, n3, n4⟩, n5⟩)
          | (go_at_call 64; refine (kD _ vc (by first | exact bx | exact bx.alloc bx.size _ | exact (Below.refl _ _).drew | exact ((Below.refl _ _).alloc (Nat.le_refl _) _).drew) (by first | exact oC | exact oC.alloc _)).mono ?_; rintro _ w2 ⟨rfl, bx⟩))
      all_goals go_wp2_with fail
      all_goals go_meet
      all_goals first | exact ⟨_, rfl, rfl, hN.set2 _ _, (bx.setCell (p := ⟨_, 0, none⟩) hgN _).setCell (p := ⟨_, 1, none⟩) hgN _, hgN⟩ | exact ⟨_, rfl, rfl, Blk.new _ _ _, bx.alloc bx.size _, bx.size⟩
    case rest =>
      obtain ⟨g7, rfl, rfl, h7, bel2, hg7⟩ := hcut
      have bel3 := bthen bel1 bel2 bel1.size
      have hA2 := hA.below bel2 hA.lt
      have hC2 := hC.below bel2 hC.lt
      have a0 : wc.cell? ⟨w.heap.size, 0, none⟩ = some (.int .i64 n) := hA2.cell 0
      have a1 : wc.cell? ⟨w.heap.size, 1, none⟩ = some (.int .i64 d) := hA2.cell 1
      have a2 : wc.cell? ⟨w.heap.size + 1, 0, none⟩ = some (.int .i64 m) := hC2.cell 0
      have a3 : wc.cell? ⟨w.heap.size + 1, 1, none⟩ = some (.int .i64 e) := hC2.cell 1
      have zA := hA2.lt
      have zC := hC2.lt
      have f0 : wc.cell? ⟨g7, 0, none⟩ = some (.int .i64 X) := h7.cell 0
      have f1 : wc.cell? ⟨g7, 1, none⟩ = some (.int .i64 Y) := h7.cell 1
      have zG := h7.lt
      clear hA hC hA2 hC2 h7 bel1 bel2 l1 l2 l3 l4
      have kG1 := run_guardF .eql
      have kG2 := run_guardF .neq
      have kE := run_eqF X Y n d _ rfl
      have kN := run_neF n d m e _ rfl
      have hv := HMM.out
      cases hx : (X == n && Y == d) <;> cases hy : (n == m && d == e) <;> rw [hx] at kE hv <;> rw [hy] at kN hv
      all_goals subst hv
      all_goals clear hx hy HMM
      all_goals simp only [Bool.not_false, Bool.not_true] at kN
      all_goals go_wp2
      all_goals
        go_ret2
        refine ⟨by first | rfl | (simp), ?_⟩
        repeat' (first | (with_reducible exact Below.refl _ _) | (with_reducible assumption) | (with_reducible refine Below.alloc ?_ ?_ _) | (with_reducible refine Below.drew ?_) | (with_reducible refine bdrewN ?_ _) | (with_reducible refine Below.setCell ?_ ?_ _) | (with_reducible refine bthen ?_ (by assumption) ?_) | go_size)
  · have hM : iaM n d m e = (false, r) := by unfold iaM; rw [if_neg (by rw [hr]; exact h0), hr]
    rw [hM]
    have hne : (r != 0) = true := by simp [h0]
    clear hM hr h0
    go_enter Try.func34, Try.ntmps34
    go_wp2_with fail
    apply Calls.mono
    · with_reducible exact checkPositive_any 2 2 _ (xsT n m) (xsT d e) (by omega) (by omega) (by omega) _ (by simp) (by intro j hj; obtain rfl | rfl : j = 0 ∨ j = 1 := (by omega); exact ⟨(blk_at2' w _ _ _ _).cell 0, (blk_at2' w _ _ _ _).cell 1⟩; exact ⟨(blk_at2' w _ _ _ _).cell 2, (blk_at2' w _ _ _ _).cell 3⟩) r H.out
    rintro _ w1 ⟨rfl, hb_w1⟩
    obtain ⟨hc_w1, hf_w1, hs_w1⟩ := bcell hb_w1
    try simp at hs_w1
    have hz_w1_w0 : w.heap.size < w1.heap.size := by omega
    have hy_w1_w0 : w.heap.size ≤ w1.heap.size := by omega
    have hx_w1_w0 : ∀ n : Nat, w.heap.size < w1.heap.size + n := by intro n; omega
    have hv_w1_w0 : ∀ n : Nat, w.heap.size ≤ w1.heap.size + n := by intro n; omega
    have hz_w1_w1 : w.heap.size + 1 < w1.heap.size := by omega
    have hy_w1_w1 : w.heap.size + 1 ≤ w1.heap.size := by omega
    have hx_w1_w1 : ∀ n : Nat, w.heap.size + 1 < w1.heap.size + n := by intro n; omega
    have hv_w1_w1 : ∀ n : Nat, w.heap.size + 1 ≤ w1.heap.size + n := by intro n; omega
    have hz_w1_w2 : w.heap.size + 2 < w1.heap.size := by omega
    have hy_w1_w2 : w.heap.size + 2 ≤ w1.heap.size := by omega
    have hx_w1_w2 : ∀ n : Nat, w.heap.size + 2 < w1.heap.size + n := by intro n; omega
    have hv_w1_w2 : ∀ n : Nat, w.heap.size + 2 ≤ w1.heap.size + n := by intro n; omega
    go_wp2
    go_ret2
    refine ⟨by first | rfl | (simp), ?_⟩
    repeat' (first | (with_reducible exact Below.refl _ _) | (with_reducible assumption) | (with_reducible refine Below.alloc ?_ ?_ _) | (with_reducible refine Below.drew ?_) | (with_reducible refine bdrewN ?_ _) | (with_reducible refine Below.setCell ?_ ?_ _) | (with_reducible refine bthen ?_ (by assumption) ?_) | go_size)
set_option maxHeartbeats 4000000 in
set_option maxRecDepth 100000 in
theorem isAncS_any (n d m e : Int) (w : World) : Calls Try.prog 35 #[.agg #[.int .i64 n, .int .i64 d], .agg #[.int .i64 m, .int .i64 e]] w (Ret w (.tuple #[.bool (iaM n d m e).1, .int .i64 (iaM n d m e).2])) := by
  obtain ⟨r, hr⟩ : ∃ r, posT n d m e = r := ⟨_, rfl⟩
  have H := Lib.hid (hr)
  by_cases h0 : r = 0
  · subst h0
    obtain ⟨p1, p2⟩ := posT_zero hr
    obtain ⟨hok, ⟨n1, n2⟩, d1, d2⟩ := pos_facts p1
    obtain ⟨hok', ⟨m1, m2⟩, e1, e2⟩ := pos_facts p2
    obtain ⟨i, l, hL, E⟩ := ex_all n1 n2 d1 d2
    obtain ⟨i', l', hL', E'⟩ := ex_all m1 m2 e1 e2
    have hM : iaM n d m e = (((faM (coL (pthL i l) (pthL i' l'))).1 == n && (faM (coL (pthL i l) (pthL i' l'))).2 == d) && !(n == m && d == e), 0) := by unfold iaM; rw [if_pos hr, ca_of hr hL hL']
    have kPa := fun w => l05Path_any n d n1 n2 d1 d2 i l hL E w
    have kPb := fun w => l05Path_any m e m1 m2 e1 e2 i' l' hL' E' w
    have okA := pth_ok E
    have okB := pth_ok E'
    rw [hM]
    generalize pthL i l = pa at *
    generalize pthL i' l' = pb at *
    have hFa := co_fa okA okB
    have kCm := fun v1 v2 w h1 h2 => l05Common_any v1 v2 pa.length pb.length pa pb w h1 h2 okA okB
    have kFa := fun v w hv => l05At_fa v (coL pa pb) w hv hFa
    generalize (faM (coL pa pb)).1 = X at *
    generalize (faM (coL pa pb)).2 = Y at *
    generalize faB (coL pa pb) = fb at *
    obtain ⟨M, hMM⟩ : ∃ M, ((X == n && Y == d) && !(n == m && d == e)) = M := ⟨_, rfl⟩
    rw [hMM]
    have HMM := Lib.hid hMM
    clear hMM
    clear hM hr hL hL' E E' hok hok' p1 p2 okA okB hFa n1 n2 d1 d2 m1 m2 e1 e2
    go_enter Try.func35, Try.ntmps35
    go_wp2_with fail
    apply Calls.mono
    · with_reducible exact l05Two_any _ _ _ _ 0 H.out _
    rintro _ w1 ⟨rfl, hb_w1⟩
    obtain ⟨hc_w1, hf_w1, hs_w1⟩ := bcell hb_w1
    try simp at hs_w1
    have hz_w1_w0 : w.heap.size < w1.heap.size := by omega
    have hy_w1_w0 : w.heap.size ≤ w1.heap.size := by omega
    have hx_w1_w0 : ∀ n : Nat, w.heap.size < w1.heap.size + n := by intro n; omega
    have hv_w1_w0 : ∀ n : Nat, w.heap.size ≤ w1.heap.size + n := by intro n; omega
    have hz_w1_w1 : w.heap.size + 1 < w1.heap.size := by omega
    have hy_w1_w1 : w.heap.size + 1 ≤ w1.heap.size := by omega
    have hx_w1_w1 : ∀ n : Nat, w.heap.size + 1 < w1.heap.size + n := by intro n; omega
    have hv_w1_w1 : ∀ n : Nat, w.heap.size + 1 ≤ w1.heap.size + n := by intro n; omega
    have hA0 : Blk (((w.alloc (.cells #[.int .i64 n, .int .i64 d] 24)).alloc (.cells #[.int .i64 m, .int .i64 e] 24))) (w.heap.size) 24 #[.int .i64 n, .int .i64 d] := (Blk.new w _ _).alloc _
    have hC0 : Blk (((w.alloc (.cells #[.int .i64 n, .int .i64 d] 24)).alloc (.cells #[.int .i64 m, .int .i64 e] 24))) (w.heap.size + 1) 24 #[.int .i64 m, .int .i64 e] := blk_at1' w _ _ _
    have hA := hA0.below hb_w1 hA0.lt
    have hC := hC0.below hb_w1 hC0.lt
    have bel1 : Below w.heap.size w w1 := by repeat' (first | (with_reducible exact Below.refl _ _) | (with_reducible assumption) | (with_reducible refine Below.alloc ?_ ?_ _) | (with_reducible refine Below.drew ?_) | (with_reducible refine bdrewN ?_ _) | (with_reducible refine Below.setCell ?_ ?_ _) | (with_reducible refine bthen ?_ (by assumption) ?_) | go_size)
    obtain ⟨W, hW⟩ : ∃ W, W = w1 := ⟨_, rfl⟩
    subst hW
    clear hA0 hC0 hb_w1 hc_w1 hf_w1
    have kA0 : ∀ wx, Below W.heap.size W wx → Calls Try.prog 59 #[.agg #[.int .i64 n, .int .i64 d]] wx (fun e' w' => ∃ v1, e' = .returned v1 ∧ w'.ownsRow W.heap.size 2 1 v1 pa.length (ints pa) ∧ Below W.heap.size W w') := fun wx hb => (kPa wx).mono fun e' w' ⟨v1, h1, h2, h3⟩ => (by exact ⟨v1, h1, own_base h2 hb.size, bthen hb h3 hb.size⟩)
    have kA0' : ∀ wx g, Below W.heap.size W wx → Blk wx g 24 #[.int .i64 0, .int .i64 0] → W.heap.size ≤ g → Calls Try.prog 59 #[.agg #[.int .i64 n, .int .i64 d]] wx (fun e' w' => ∃ v1, e' = .returned v1 ∧ w'.ownsRow W.heap.size 2 1 v1 pa.length (ints pa) ∧ Below W.heap.size W w' ∧ Blk w' g 24 #[.int .i64 0, .int .i64 0] ∧ W.heap.size ≤ g ∧ (w'.cell? ⟨g, 0, none⟩ = some (.int .i64 0) ∧ w'.cell? ⟨g, 1, none⟩ = some (.int .i64 0) ∧ w'.frozen? ⟨g, 0, none⟩ = false ∧ w'.frozen? ⟨g, 1, none⟩ = false) ∧ g < w'.heap.size) := fun wx g hb hN hg => (kPa wx).mono fun e' w' ⟨v1, h1, h2, h3⟩ => (by have hn := hN.below h3 hN.lt; exact ⟨v1, h1, own_base h2 hb.size, bthen hb h3 hb.size, hn, hg, ⟨hn.cell 0, hn.cell 1, hn.frozen 0, hn.frozen 1⟩, hn.lt⟩)
    have kA1 : ∀ wx v2, Below W.heap.size W wx → wx.ownsRow W.heap.size 2 1 v2 pb.length (ints pb) → Calls Try.prog 59 #[.agg #[.int .i64 n, .int .i64 d]] wx (fun e' w' => ∃ v1, e' = .returned v1 ∧ w'.ownsRow W.heap.size 2 1 v1 pa.length (ints pa) ∧ Below W.heap.size W w' ∧ w'.ownsRow W.heap.size 2 1 v2 pb.length (ints pb)) := fun wx v2 hb ho => (kPa wx).mono fun e' w' ⟨v1, h1, h2, h3⟩ => (by exact ⟨v1, h1, own_base h2 hb.size, bthen hb h3 hb.size, own_below ho h3 (Nat.le_refl _)⟩)
    have kA1' : ∀ wx v2 g, Below W.heap.size W wx → wx.ownsRow W.heap.size 2 1 v2 pb.length (ints pb) → Blk wx g 24 #[.int .i64 0, .int .i64 0] → W.heap.size ≤ g → Calls Try.prog 59 #[.agg #[.int .i64 n, .int .i64 d]] wx (fun e' w' => ∃ v1, e' = .returned v1 ∧ w'.ownsRow W.heap.size 2 1 v1 pa.length (ints pa) ∧ Below W.heap.size W w' ∧ w'.ownsRow W.heap.size 2 1 v2 pb.length (ints pb) ∧ Blk w' g 24 #[.int .i64 0, .int .i64 0] ∧ W.heap.size ≤ g ∧ (w'.cell? ⟨g, 0, none⟩ = some (.int .i64 0) ∧ w'.cell? ⟨g, 1, none⟩ = some (.int .i64 0) ∧ w'.frozen? ⟨g, 0, none⟩ = false ∧ w'.frozen? ⟨g, 1, none⟩ = false) ∧ g < w'.heap.size) := fun wx v2 g hb ho hN hg => (kPa wx).mono fun e' w' ⟨v1, h1, h2, h3⟩ => (by have hn := hN.below h3 hN.lt; exact ⟨v1, h1, own_base h2 hb.size, bthen hb h3 hb.size, own_below ho h3 (Nat.le_refl _), hn, hg, ⟨hn.cell 0, hn.cell 1, hn.frozen 0, hn.frozen 1⟩, hn.lt⟩)
    have kB0 : ∀ wx, Below W.heap.size W wx → Calls Try.prog 59 #[.agg #[.int .i64 m, .int .i64 e]] wx (fun e' w' => ∃ v1, e' = .returned v1 ∧ w'.ownsRow W.heap.size 2 1 v1 pb.length (ints pb) ∧ Below W.heap.size W w') := fun wx hb => (kPb wx).mono fun e' w' ⟨v1, h1, h2, h3⟩ => (by exact ⟨v1, h1, own_base h2 hb.size, bthen hb h3 hb.size⟩)
    have kB0' : ∀ wx g, Below W.heap.size W wx → Blk wx g 24 #[.int .i64 0, .int .i64 0] → W.heap.size ≤ g → Calls Try.prog 59 #[.agg #[.int .i64 m, .int .i64 e]] wx (fun e' w' => ∃ v1, e' = .returned v1 ∧ w'.ownsRow W.heap.size 2 1 v1 pb.length (ints pb) ∧ Below W.heap.size W w' ∧ Blk w' g 24 #[.int .i64 0, .int .i64 0] ∧ W.heap.size ≤ g ∧ (w'.cell? ⟨g, 0, none⟩ = some (.int .i64 0) ∧ w'.cell? ⟨g, 1, none⟩ = some (.int .i64 0) ∧ w'.frozen? ⟨g, 0, none⟩ = false ∧ w'.frozen? ⟨g, 1, none⟩ = false) ∧ g < w'.heap.size) := fun wx g hb hN hg => (kPb wx).mono fun e' w' ⟨v1, h1, h2, h3⟩ => (by have hn := hN.below h3 hN.lt; exact ⟨v1, h1, own_base h2 hb.size, bthen hb h3 hb.size, hn, hg, ⟨hn.cell 0, hn.cell 1, hn.frozen 0, hn.frozen 1⟩, hn.lt⟩)
    have kB1 : ∀ wx v2, Below W.heap.size W wx → wx.ownsRow W.heap.size 2 1 v2 pa.length (ints pa) → Calls Try.prog 59 #[.agg #[.int .i64 m, .int .i64 e]] wx (fun e' w' => ∃ v1, e' = .returned v1 ∧ w'.ownsRow W.heap.size 2 1 v1 pb.length (ints pb) ∧ Below W.heap.size W w' ∧ w'.ownsRow W.heap.size 2 1 v2 pa.length (ints pa)) := fun wx v2 hb ho => (kPb wx).mono fun e' w' ⟨v1, h1, h2, h3⟩ => (by exact ⟨v1, h1, own_base h2 hb.size, bthen hb h3 hb.size, own_below ho h3 (Nat.le_refl _)⟩)
    have kB1' : ∀ wx v2 g, Below W.heap.size W wx → wx.ownsRow W.heap.size 2 1 v2 pa.length (ints pa) → Blk wx g 24 #[.int .i64 0, .int .i64 0] → W.heap.size ≤ g → Calls Try.prog 59 #[.agg #[.int .i64 m, .int .i64 e]] wx (fun e' w' => ∃ v1, e' = .returned v1 ∧ w'.ownsRow W.heap.size 2 1 v1 pb.length (ints pb) ∧ Below W.heap.size W w' ∧ w'.ownsRow W.heap.size 2 1 v2 pa.length (ints pa) ∧ Blk w' g 24 #[.int .i64 0, .int .i64 0] ∧ W.heap.size ≤ g ∧ (w'.cell? ⟨g, 0, none⟩ = some (.int .i64 0) ∧ w'.cell? ⟨g, 1, none⟩ = some (.int .i64 0) ∧ w'.frozen? ⟨g, 0, none⟩ = false ∧ w'.frozen? ⟨g, 1, none⟩ = false) ∧ g < w'.heap.size) := fun wx v2 g hb ho hN hg => (kPb wx).mono fun e' w' ⟨v1, h1, h2, h3⟩ => (by have hn := hN.below h3 hN.lt; exact ⟨v1, h1, own_base h2 hb.size, bthen hb h3 hb.size, own_below ho h3 (Nat.le_refl _), hn, hg, ⟨hn.cell 0, hn.cell 1, hn.frozen 0, hn.frozen 1⟩, hn.lt⟩)
    have kC : ∀ wx v1 v2, Below W.heap.size W wx → wx.ownsRow W.heap.size 2 1 v1 pa.length (ints pa) → wx.ownsRow W.heap.size 2 1 v2 pb.length (ints pb) → Calls Try.prog 67 #[v1, v2] wx (fun e' w' => ∃ v3, e' = .returned v3 ∧ Rs w' 1 v3 (coL pa pb).length (ints (coL pa pb)) ∧ Below W.heap.size W w') := fun wx v1 v2 hb h1 h2 => (kCm v1 v2 wx (Rs.of_own h1) (Rs.of_own h2)).mono fun e' w' ⟨v3, q1, q2, q3⟩ => (by exact ⟨v3, q1, q2, bthen hb q3 hb.size⟩)
    have kD : ∀ wx v3, Below W.heap.size W wx → Rs wx 1 v3 (coL pa pb).length (ints (coL pa pb)) → Calls Try.prog 60 #[v3] wx (fun e' w' => e' = .returned (.tuple #[.agg #[.int .i64 X, .int .i64 Y], .bool fb]) ∧ Below W.heap.size W w') := fun wx v3 hb h3 => (kFa v3 wx h3).mono fun e' w' h => (by exact ⟨h.1, bthen hb h.2 hb.size⟩)
    have kC' : ∀ wx v1 v2 g, Below W.heap.size W wx → wx.ownsRow W.heap.size 2 1 v1 pa.length (ints pa) → wx.ownsRow W.heap.size 2 1 v2 pb.length (ints pb) → Blk wx g 24 #[.int .i64 0, .int .i64 0] → W.heap.size ≤ g → Calls Try.prog 67 #[v1, v2] wx (fun e' w' => ∃ v3, e' = .returned v3 ∧ Rs w' 1 v3 (coL pa pb).length (ints (coL pa pb)) ∧ Below W.heap.size W w' ∧ Blk w' g 24 #[.int .i64 0, .int .i64 0] ∧ W.heap.size ≤ g ∧ (w'.cell? ⟨g, 0, none⟩ = some (.int .i64 0) ∧ w'.cell? ⟨g, 1, none⟩ = some (.int .i64 0) ∧ w'.frozen? ⟨g, 0, none⟩ = false ∧ w'.frozen? ⟨g, 1, none⟩ = false) ∧ g < w'.heap.size) := fun wx v1 v2 g hb h1 h2 hN hg => (kCm v1 v2 wx (Rs.of_own h1) (Rs.of_own h2)).mono fun e' w' ⟨v3, q1, q2, q3⟩ => (by have hn := hN.below q3 hN.lt; exact ⟨v3, q1, q2, bthen hb q3 hb.size, hn, hg, ⟨hn.cell 0, hn.cell 1, hn.frozen 0, hn.frozen 1⟩, hn.lt⟩)
    have kD' : ∀ wx v3 g, Below W.heap.size W wx → Rs wx 1 v3 (coL pa pb).length (ints (coL pa pb)) → Blk wx g 24 #[.int .i64 0, .int .i64 0] → W.heap.size ≤ g → Calls Try.prog 60 #[v3] wx (fun e' w' => e' = .returned (.tuple #[.agg #[.int .i64 X, .int .i64 Y], .bool fb]) ∧ Below W.heap.size W w' ∧ Blk w' g 24 #[.int .i64 0, .int .i64 0] ∧ W.heap.size ≤ g ∧ (w'.cell? ⟨g, 0, none⟩ = some (.int .i64 0) ∧ w'.cell? ⟨g, 1, none⟩ = some (.int .i64 0) ∧ w'.frozen? ⟨g, 0, none⟩ = false ∧ w'.frozen? ⟨g, 1, none⟩ = false) ∧ g < w'.heap.size) := fun wx v3 g hb h3 hN hg => (kFa v3 wx h3).mono fun e' w' h => (by have hn := hN.below h.2 hN.lt; exact ⟨h.1, bthen hb h.2 hb.size, hn, hg, ⟨hn.cell 0, hn.cell 1, hn.frozen 0, hn.frozen 1⟩, hn.lt⟩)
    have KS : ∀ wx, Below W.heap.size W wx → wx.cell? ⟨w.heap.size, 0, none⟩ = some (.int .i64 n) ∧ wx.cell? ⟨w.heap.size, 1, none⟩ = some (.int .i64 d) ∧ wx.cell? ⟨w.heap.size + 1, 0, none⟩ = some (.int .i64 m) ∧ wx.cell? ⟨w.heap.size + 1, 1, none⟩ = some (.int .i64 e) := fun wx hb => by
      have g1 := hA.below hb hA.lt
      have g2 := hC.below hb hC.lt
      exact ⟨g1.cell 0, g1.cell 1, g2.cell 0, g2.cell 1⟩
    obtain ⟨l1, l2, l3, l4⟩ := KS W (Below.refl _ _)
    go_upto_region 4 with fail
    go_cut [7, 8] from 15 (fun s7 s8 wx => ∃ g7, s7 = .pointer (some ⟨g7, 0, none⟩) ∧ s8 = .bool fb ∧ Blk wx g7 24 #[.int .i64 X, .int .i64 Y] ∧ Below W.heap.size W wx ∧ W.heap.size ≤ g7)
    case first =>
      go_region_held3 (fun wx => wx.cell? ⟨w.heap.size, 0, none⟩ = some (.int .i64 n) ∧ wx.cell? ⟨w.heap.size, 1, none⟩ = some (.int .i64 d) ∧ wx.cell? ⟨w.heap.size + 1, 0, none⟩ = some (.int .i64 m) ∧ wx.cell? ⟨w.heap.size + 1, 1, none⟩ = some (.int .i64 e))
        (first | exact KS _ bx | exact KS _ (bx.alloc bx.size _) | exact KS _ ((bx.setCell (p := ⟨_, 0, none⟩) hgN _).setCell (p := ⟨_, 1, none⟩) hgN _) | exact KS _ (Below.refl _ _).drew | exact KS _ ((Below.refl _ _).alloc (Nat.le_refl _) _).drew | go_keep)
        (first
          | (go_at_call_of 59 (Value.agg #[Value.int .i64 n, Value.int .i64 d]); refine (kA1' _ vb _ (by first | exact bx | exact bx.alloc bx.size _ | exact (Below.refl _ _).drew | exact ((Below.refl _ _).alloc (Nat.le_refl _) _).drew) (by first | exact oB | exact oB.alloc _) (by first | exact hN | exact Blk.new _ _ _ | exact (Blk.new _ _ _).drew) (by first | exact hgN | exact bx.size | exact Nat.le_refl _)).mono ?_; rintro _ w2 ⟨va, rfl, oA, bx, oB, hN, hgN, ⟨n1, n2, n3, n4⟩, n5⟩)
          | (go_at_call_of 59 (Value.agg #[Value.int .i64 n, Value.int .i64 d]); refine (kA1 _ vb (by first | exact bx | exact bx.alloc bx.size _ | exact (Below.refl _ _).drew | exact ((Below.refl _ _).alloc (Nat.le_refl _) _).drew) (by first | exact oB | exact oB.alloc _)).mono ?_; rintro _ w2 ⟨va, rfl, oA, bx, oB⟩)
          | (go_at_call_of 59 (Value.agg #[Value.int .i64 n, Value.int .i64 d]); refine (kA0' _ _ (by first | exact bx | exact bx.alloc bx.size _ | exact (Below.refl _ _).drew | exact ((Below.refl _ _).alloc (Nat.le_refl _) _).drew) (by first | exact hN | exact Blk.new _ _ _ | exact (Blk.new _ _ _).drew) (by first | exact hgN | exact bx.size | exact Nat.le_refl _)).mono ?_; rintro _ w2 ⟨va, rfl, oA, bx, hN, hgN, ⟨n1, n2, n3, n4⟩, n5⟩)
          | (go_at_call_of 59 (Value.agg #[Value.int .i64 n, Value.int .i64 d]); refine (kA0 _ (by first | exact bx | exact bx.alloc bx.size _ | exact (Below.refl _ _).drew | exact ((Below.refl _ _).alloc (Nat.le_refl _) _).drew)).mono ?_; rintro _ w2 ⟨va, rfl, oA, bx⟩)
          | (go_at_call_of 59 (Value.agg #[Value.int .i64 m, Value.int .i64 e]); refine (kB1' _ va _ (by first | exact bx | exact bx.alloc bx.size _ | exact (Below.refl _ _).drew | exact ((Below.refl _ _).alloc (Nat.le_refl _) _).drew) (by first | exact oA | exact oA.alloc _) (by first | exact hN | exact Blk.new _ _ _ | exact (Blk.new _ _ _).drew) (by first | exact hgN | exact bx.size | exact Nat.le_refl _)).mono ?_; rintro _ w2 ⟨vb, rfl, oB, bx, oA, hN, hgN, ⟨n1, n2, n3, n4⟩, n5⟩)
          | (go_at_call_of 59 (Value.agg #[Value.int .i64 m, Value.int .i64 e]); refine (kB1 _ va (by first | exact bx | exact bx.alloc bx.size _ | exact (Below.refl _ _).drew | exact ((Below.refl _ _).alloc (Nat.le_refl _) _).drew) (by first | exact oA | exact oA.alloc _)).mono ?_; rintro _ w2 ⟨vb, rfl, oB, bx, oA⟩)
          | (go_at_call_of 59 (Value.agg #[Value.int .i64 m, Value.int .i64 e]); refine (kB0' _ _ (by first | exact bx | exact bx.alloc bx.size _ | exact (Below.refl _ _).drew | exact ((Below.refl _ _).alloc (Nat.le_refl _) _).drew) (by first | exact hN | exact Blk.new _ _ _ | exact (Blk.new _ _ _).drew) (by first | exact hgN | exact bx.size | exact Nat.le_refl _)).mono ?_; rintro _ w2 ⟨vb, rfl, oB, bx, hN, hgN, ⟨n1, n2, n3, n4⟩, n5⟩)
          | (go_at_call_of 59 (Value.agg #[Value.int .i64 m, Value.int .i64 e]); refine (kB0 _ (by first | exact bx | exact bx.alloc bx.size _ | exact (Below.refl _ _).drew | exact ((Below.refl _ _).alloc (Nat.le_refl _) _).drew)).mono ?_; rintro _ w2 ⟨vb, rfl, oB, bx⟩)
          | (go_at_call 67; refine (kC' _ va vb _ (by first | exact bx | exact bx.alloc bx.size _ | exact (Below.refl _ _).drew | exact ((Below.refl _ _).alloc (Nat.le_refl _) _).drew) (by first | exact oA | exact oA.alloc _) (by first | exact oB | exact oB.alloc _) (by first | exact hN | exact Blk.new _ _ _ | exact (Blk.new _ _ _).drew) (by first | exact hgN | exact bx.size | exact Nat.le_refl _)).mono ?_; rintro _ w2 ⟨vc, rfl, oC, bx, hN, hgN, ⟨n1, n2, n3, n4⟩, n5⟩)
          | (go_at_call 67; refine (kC _ va vb (by first | exact bx | exact bx.alloc bx.size _ | exact (Below.refl _ _).drew | exact ((Below.refl _ _).alloc (Nat.le_refl _) _).drew) (by first | exact oA | exact oA.alloc _) (by first | exact oB | exact oB.alloc _)).mono ?_; rintro _ w2 ⟨vc, rfl, oC, bx⟩)
          | (go_at_call 60; refine (kD' _ vc _ (by first | exact bx | exact bx.alloc bx.size _ | exact (Below.refl _ _).drew | exact ((Below.refl _ _).alloc (Nat.le_refl _) _).drew) (by first | exact oC | exact oC.alloc _) (by first | exact hN | exact Blk.new _ _ _ | exact (Blk.new _ _ _).drew) (by first | exact hgN | exact bx.size | exact Nat.le_refl _)).mono ?_; rintro _ w2 ⟨rfl, bx, hN, hgN, ⟨n1, n2, n3, n4⟩, n5⟩)
          | (go_at_call 60; refine (kD _ vc (by first | exact bx | exact bx.alloc bx.size _ | exact (Below.refl _ _).drew | exact ((Below.refl _ _).alloc (Nat.le_refl _) _).drew) (by first | exact oC | exact oC.alloc _)).mono ?_; rintro _ w2 ⟨rfl, bx⟩))
      all_goals go_wp2_with fail
      all_goals go_meet
      all_goals first | exact ⟨_, rfl, rfl, hN.set2 _ _, (bx.setCell (p := ⟨_, 0, none⟩) hgN _).setCell (p := ⟨_, 1, none⟩) hgN _, hgN⟩ | exact ⟨_, rfl, rfl, Blk.new _ _ _, bx.alloc bx.size _, bx.size⟩
    case rest =>
      obtain ⟨g7, rfl, rfl, h7, bel2, hg7⟩ := hcut
      have bel3 := bthen bel1 bel2 bel1.size
      have hA2 := hA.below bel2 hA.lt
      have hC2 := hC.below bel2 hC.lt
      have a0 : wc.cell? ⟨w.heap.size, 0, none⟩ = some (.int .i64 n) := hA2.cell 0
      have a1 : wc.cell? ⟨w.heap.size, 1, none⟩ = some (.int .i64 d) := hA2.cell 1
      have a2 : wc.cell? ⟨w.heap.size + 1, 0, none⟩ = some (.int .i64 m) := hC2.cell 0
      have a3 : wc.cell? ⟨w.heap.size + 1, 1, none⟩ = some (.int .i64 e) := hC2.cell 1
      have zA := hA2.lt
      have zC := hC2.lt
      have f0 : wc.cell? ⟨g7, 0, none⟩ = some (.int .i64 X) := h7.cell 0
      have f1 : wc.cell? ⟨g7, 1, none⟩ = some (.int .i64 Y) := h7.cell 1
      have zG := h7.lt
      clear hA hC hA2 hC2 h7 bel1 bel2 l1 l2 l3 l4
      have kG1 := run_guardF .eql
      have kG2 := run_guardF .neq
      have kE := run_eqF X Y n d _ rfl
      have kN := run_neF n d m e _ rfl
      have hv := HMM.out
      cases hx : (X == n && Y == d) <;> cases hy : (n == m && d == e) <;> rw [hx] at kE hv <;> rw [hy] at kN hv
      all_goals subst hv
      all_goals clear hx hy HMM
      all_goals simp only [Bool.not_false, Bool.not_true] at kN
      all_goals go_wp2
      all_goals
        go_ret2
        refine ⟨by first | rfl | (simp), ?_⟩
        repeat' (first | (with_reducible exact Below.refl _ _) | (with_reducible assumption) | (with_reducible refine Below.alloc ?_ ?_ _) | (with_reducible refine Below.drew ?_) | (with_reducible refine bdrewN ?_ _) | (with_reducible refine Below.setCell ?_ ?_ _) | (with_reducible refine bthen ?_ (by assumption) ?_) | go_size)
  · have hM : iaM n d m e = (false, r) := by unfold iaM; rw [if_neg (by rw [hr]; exact h0), hr]
    rw [hM]
    have hne : (r != 0) = true := by simp [h0]
    clear hM hr h0
    go_enter Try.func35, Try.ntmps35
    go_wp2_with fail
    apply Calls.mono
    · with_reducible exact l05Two_any _ _ _ _ r H.out _
    rintro _ w1 ⟨rfl, hb_w1⟩
    obtain ⟨hc_w1, hf_w1, hs_w1⟩ := bcell hb_w1
    try simp at hs_w1
    have hz_w1_w0 : w.heap.size < w1.heap.size := by omega
    have hy_w1_w0 : w.heap.size ≤ w1.heap.size := by omega
    have hx_w1_w0 : ∀ n : Nat, w.heap.size < w1.heap.size + n := by intro n; omega
    have hv_w1_w0 : ∀ n : Nat, w.heap.size ≤ w1.heap.size + n := by intro n; omega
    have hz_w1_w1 : w.heap.size + 1 < w1.heap.size := by omega
    have hy_w1_w1 : w.heap.size + 1 ≤ w1.heap.size := by omega
    have hx_w1_w1 : ∀ n : Nat, w.heap.size + 1 < w1.heap.size + n := by intro n; omega
    have hv_w1_w1 : ∀ n : Nat, w.heap.size + 1 ≤ w1.heap.size + n := by intro n; omega
    go_wp2
    go_ret2
    refine ⟨by first | rfl | (simp), ?_⟩
    repeat' (first | (with_reducible exact Below.refl _ _) | (with_reducible assumption) | (with_reducible refine Below.alloc ?_ ?_ _) | (with_reducible refine Below.drew ?_) | (with_reducible refine bdrewN ?_ _) | (with_reducible refine Below.setCell ?_ ?_ _) | (with_reducible refine bthen ?_ (by assumption) ?_) | go_size)
end Go.Proofs.Ytlmmpeeacjbobaa
