/-
  The next and the previous element of a Farey sequence: both packages' ways return what the same plain functions give.
-/
import Derived.Test.YtlmmpeeacjbobaaDoorFarey2
namespace Go.Proofs.YtlmmpeeacjbobaaDoor
open Go.RowKit

/-- The best fraction above n / d with a denominator up to q. -/
def nxtF (n d : Int) : Nat → Int × Int
  | 0 => (1, 1)
  | q + 1 => if (n * ((q : Int) + 1) / d + 1) * (nxtF n d q).2 < (nxtF n d q).1 * ((q : Int) + 1) then (n * ((q : Int) + 1) / d + 1, (q : Int) + 1) else nxtF n d q
/-- The best fraction below n / d with a denominator up to q. -/
def befF (n d : Int) : Nat → Int × Int
  | 0 => (0, 1)
  | q + 1 => if (befF n d q).1 * ((q : Int) + 1) < (-(-n * ((q : Int) + 1) / d) - 1) * (befF n d q).2 then (-(-n * ((q : Int) + 1) / d) - 1, (q : Int) + 1) else befF n d q
theorem bef_nxt (n d : Int) (hd : 1 ≤ d) (q : Nat) : befF n d q = ((nxtF (d - n) d q).2 - (nxtF (d - n) d q).1, (nxtF (d - n) d q).2) := by
  induction q with
  | zero => rfl
  | succ q ih =>
    unfold befF nxtF
    rw [ih]
    have e1 : (d - n) * ((q : Int) + 1) / d = ((q : Int) + 1) + (-n * ((q : Int) + 1)) / d := by
      rw [show (d - n) * ((q : Int) + 1) = -n * ((q : Int) + 1) + d * ((q : Int) + 1) by rw [Int.sub_mul, Int.neg_mul]; omega]
      rw [Int.add_mul_ediv_left _ _ (by omega)]
      omega
    rw [e1]
    generalize hb : nxtF (d - n) d q = b
    generalize (-n * ((q : Int) + 1)) / d = c
    have g1 : (-c - 1) * b.2 = -(c * b.2) - b.2 := by rw [Int.sub_mul, Int.neg_mul, Int.one_mul]
    have g2 : (b.2 - b.1) * ((q : Int) + 1) = ((q : Int) + 1) * b.2 - b.1 * ((q : Int) + 1) := by rw [Int.sub_mul, Int.mul_comm b.2]
    have g3 : ((q : Int) + 1 + c + 1) * b.2 = ((q : Int) + 1) * b.2 + c * b.2 + b.2 := by rw [Int.add_mul ((q : Int) + 1 + c) 1, Int.add_mul ((q : Int) + 1) c, Int.one_mul]
    have e2 : (((b.2 - b.1) * ((q : Int) + 1) < (-c - 1) * b.2)) ↔ ((((q : Int) + 1 + c + 1) * b.2 < b.1 * ((q : Int) + 1))) := by
      rw [g1, g2, g3]
      omega
    clear g1 g2 g3
    by_cases h : ((q : Int) + 1 + c + 1) * b.2 < b.1 * ((q : Int) + 1)
    · rw [if_pos (e2.2 h), if_pos h]
      clear e2 h
      show ((-c - 1, (q : Int) + 1) : Int × Int) = ((q : Int) + 1 - ((q : Int) + 1 + c + 1), (q : Int) + 1)
      rw [show (q : Int) + 1 - ((q : Int) + 1 + c + 1) = -c - 1 by omega]
    · rw [if_neg (fun h' => h (e2.1 h')), if_neg h]
theorem nxt_q {n d : Int} {q : Int} (h1 : 0 ≤ n) (h2 : n ≤ d) (h3 : 1 ≤ d) (hq : 0 ≤ q) : 0 ≤ n * q / d ∧ n * q / d ≤ q := by
  constructor
  · exact Int.ediv_nonneg (Int.mul_nonneg h1 hq) (by omega)
  · refine Int.ediv_le_of_le_mul (by omega) ?_
    rw [Int.mul_comm q d]
    exact Int.mul_le_mul_of_nonneg_right h2 hq
theorem nxt_bd (n d : Int) (h1 : 0 ≤ n) (h2 : n ≤ d) (h3 : 1 ≤ d) (q : Nat) : 0 ≤ (nxtF n d q).1 ∧ (nxtF n d q).1 ≤ (q : Int) + 1 ∧ 1 ≤ (nxtF n d q).2 ∧ (nxtF n d q).2 ≤ (q : Int) + 1 := by
  induction q with
  | zero => simp [nxtF]
  | succ q ih =>
    unfold nxtF
    have h := nxt_q (q := (q : Int) + 1) h1 h2 h3 (by omega)
    split
    · simp only; omega
    · omega
theorem bef_bd (n d : Int) (h1 : 0 ≤ n) (h2 : n ≤ d) (h3 : 1 ≤ d) (q : Nat) : -((q : Int) + 1) ≤ (befF n d q).1 ∧ (befF n d q).1 ≤ (q : Int) + 1 ∧ 1 ≤ (befF n d q).2 ∧ (befF n d q).2 ≤ (q : Int) + 1 := by
  rw [bef_nxt n d h3 q]
  have := nxt_bd (d - n) d (by omega) (by omega) h3 q
  simp only
  omega
theorem nxt_one (n d : Int) (h1 : 0 ≤ n) (h2 : n < d) : nxtF n d 1 = (1, 1) := by
  have : n / d = 0 := Int.ediv_eq_zero_of_lt h1 h2
  simp [nxtF, this]
theorem bef_one (n d : Int) (h1 : 0 < n) (h2 : n ≤ d) : befF n d 1 = (0, 1) := by
  rw [bef_nxt n d (by omega) 1, nxt_one (d - n) d (by omega) (by omega)]
  rfl
/-- NextFarey and BeforeFarey. -/
def nextM (N n d : Int) : Int × Int × Int := if chkM N 10000 n d = 0 then (if n = d then (0, 0, 3) else ((nxtF n d N.toNat).1, (nxtF n d N.toNat).2, 0)) else (0, 0, chkM N 10000 n d)
def befM (N n d : Int) : Int × Int × Int := if chkM N 10000 n d = 0 then (if n = 0 then (0, 0, 3) else ((befF n d N.toNat).1, (befF n d N.toNat).2, 0)) else (0, 0, chkM N 10000 n d)
theorem chk_zero {N M n d : Int} (h : chkM N M n d = 0) : 1 ≤ N ∧ N ≤ M ∧ 0 ≤ n ∧ n ≤ d ∧ okF n d = true := by
  cases h1 : okF n d
  · simp [chkM, h1] at h
  · simp only [chkM, h1, if_true] at h
    split at h
    · rename_i h2
      simp only [inB, Bool.and_eq_true, decide_eq_true_eq] at h2
      exact ⟨h2.1.1, h2.1.2, h2.2.1, h2.2.2, rfl⟩
    · simp at h

theorem Blk.later {w w' : World} {g B : Nat} {t : TypeId} {cs : Array Value} (h : Blk w g t cs) (hb : Below B w w') (hB : w.heap.size ≤ B) : Blk w' g t cs := h.below hb (Nat.lt_of_lt_of_le h.lt hB)
theorem blk_new1 (w : World) (t : TypeId) (cs : Array Value) (o o' : Obj) : Blk (((w.alloc (.cells cs t)).alloc o).alloc o') w.heap.size t cs := ((Blk.new w t cs).alloc o).alloc o'
theorem blk_new3 (w : World) (t : TypeId) (o o' : Obj) (cs : Array Value) : Blk (((w.alloc o).alloc o').alloc (.cells cs t)) (w.heap.size + 1 + 1) t cs := by
  have h := Blk.new ((w.alloc o).alloc o') t cs
  rw [World.size_alloc, World.size_alloc] at h
  exact h
def NxR (f : Nat → Int × Int) (w : World) (n d : Int) (tp gr g : Nat) (N : Nat) (k : Nat) (x : Value) (wr : World) : Prop :=
  ∃ q : Nat, q ≤ N ∧ N ≤ q + k ∧ x = .int .i64 ((q : Int) + 1) ∧ Blk wr g 43 #[.int .i64 (f q).1, .int .i64 (f q).2] ∧ Below w.heap.size w wr ∧
    Blk wr tp 43 #[.int .i64 n, .int .i64 d] ∧ Blk wr gr 43 #[.int .i64 0, .int .i64 0]
theorem blk_new1' (w : World) (t : TypeId) (cs : Array Value) (o : Obj) : Blk ((w.alloc (.cells cs t)).alloc o) w.heap.size t cs := (Blk.new w t cs).alloc o
theorem blk_new2' (w : World) (t : TypeId) (o : Obj) (cs : Array Value) : Blk ((w.alloc o).alloc (.cells cs t)) (w.heap.size + 1) t cs := by
  have h := Blk.new (w.alloc o) t cs
  rwa [World.size_alloc] at h
theorem bef_q {n d : Int} {q : Int} (h1 : 0 ≤ n) (h2 : n ≤ d) (h3 : 1 ≤ d) (hq : 0 ≤ q) : -q ≤ -n * q / d ∧ -n * q / d ≤ 0 := by
  constructor
  · rw [Int.le_ediv_iff_mul_le (by omega), Int.neg_mul, Int.neg_mul, Int.mul_comm q d]
    have := Int.mul_le_mul_of_nonneg_right h2 hq
    omega
  · refine Int.ediv_le_of_le_mul (by omega) ?_
    have := Int.mul_nonneg h1 hq
    rw [Int.neg_mul]; omega
end Go.Proofs.YtlmmpeeacjbobaaDoor
