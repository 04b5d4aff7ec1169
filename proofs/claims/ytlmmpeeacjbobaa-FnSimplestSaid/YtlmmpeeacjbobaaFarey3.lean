/-
  The next and the previous element of a Farey sequence: both packages' ways return what the same plain functions give.
-/
import Derived.Test.YtlmmpeeacjbobaaFarey2
namespace Go.Proofs.Ytlmmpeeacjbobaa
open Go.RowKit

/-- The best fraction above n / d with a denominator up to q. -/
def nxtF (n d : Int) : Nat → Int × Int
  | 0 => (1, 1)
  | q + 1 => if (n * ((q : Int) + 1) / d + 1) * (nxtF n d q).2 < (nxtF n d q).1 * ((q : Int) + 1) then (n * ((q : Int) + 1) / d + 1, (q : Int) + 1) else nxtF n d q
/-- The best fraction below n / d with a denominator up to q. -/
def befF (n d : Int) : Nat → Int × Int
  | 0 => (0, 1)
  | q + 1 => if (befF n d q).1 * ((q : Int) + 1) < (-(-n * ((q : Int) + 1) / d) - 1) * (befF n d q).2 then (-(-n * ((q : Int) + 1) / d) - 1, (q : Int) + 1) else befF n d q
theorem bef_nxt (n d : Int) (hd : 1 ≤ d) (q : Nat) : befF n d q = ((nxtF (d - n) d q).2 - (nxtF (d - n) d q).1, (nxtF (d - n) d q).2) := by
  induction q with
  | zero => rfl
  | succ q ih =>
    unfold befF nxtF
    rw [ih]
    have e1 : (d - n) * ((q : Int) + 1) / d = ((q : Int) + 1) + (-n * ((q : Int) + 1)) / d := by
      rw [show (d - n) * ((q : Int) + 1) = -n * ((q : Int) + 1) + d * ((q : Int) + 1) by rw [Int.sub_mul, Int.neg_mul]; omega]
      rw [Int.add_mul_ediv_left _ _ (by omega)]
      omega
    rw [e1]
    generalize hb : nxtF (d - n) d q = b
    generalize (-n * ((q : Int) + 1)) / d = c
    have g1 : (-c - 1) * b.2 = -(c * b.2) - b.2 := by rw [Int.sub_mul, Int.neg_mul, Int.one_mul]
    have g2 : (b.2 - b.1) * ((q : Int) + 1) = ((q : Int) + 1) * b.2 - b.1 * ((q : Int) + 1) := by rw [Int.sub_mul, Int.mul_comm b.2]
    have g3 : ((q : Int) + 1 + c + 1) * b.2 = ((q : Int) + 1) * b.2 + c * b.2 + b.2 := by rw [Int.add_mul ((q : Int) + 1 + c) 1, Int.add_mul ((q : Int) + 1) c, Int.one_mul]
    have e2 : (((b.2 - b.1) * ((q : Int) + 1) < (-c - 1) * b.2)) ↔ ((((q : Int) + 1 + c + 1) * b.2 < b.1 * ((q : Int) + 1))) := by
      rw [g1, g2, g3]
      omega
    clear g1 g2 g3
    by_cases h : ((q : Int) + 1 + c + 1) * b.2 < b.1 * ((q : Int) + 1)
    · rw [if_pos (e2.2 h), if_pos h]
      clear e2 h
      show ((-c - 1, (q : Int) + 1) : Int × Int) = ((q : Int) + 1 - ((q : Int) + 1 + c + 1), (q : Int) + 1)
      rw [show (q : Int) + 1 - ((q : Int) + 1 + c + 1) = -c - 1 by omega]
    · rw [if_neg (fun h' => h (e2.1 h')), if_neg h]
theorem nxt_q {n d : Int} {q : Int} (h1 : 0 ≤ n) (h2 : n ≤ d) (h3 : 1 ≤ d) (hq : 0 ≤ q) : 0 ≤ n * q / d ∧ n * q / d ≤ q := by
  constructor
  · exact Int.ediv_nonneg (Int.mul_nonneg h1 hq) (by omega)
  · refine Int.ediv_le_of_le_mul (by omega) ?_
    rw [Int.mul_comm q d]
    exact Int.mul_le_mul_of_nonneg_right h2 hq
theorem nxt_bd (n d : Int) (h1 : 0 ≤ n) (h2 : n ≤ d) (h3 : 1 ≤ d) (q : Nat) : 0 ≤ (nxtF n d q).1 ∧ (nxtF n d q).1 ≤ (q : Int) + 1 ∧ 1 ≤ (nxtF n d q).2 ∧ (nxtF n d q).2 ≤ (q : Int) + 1 := by
  induction q with
  | zero => simp [nxtF]
  | succ q ih =>
    unfold nxtF
    have h := nxt_q (q := (q : Int) + 1) h1 h2 h3 (by omega)
    split
    · simp only; omega
    · omega
theorem bef_bd (n d : Int) (h1 : 0 ≤ n) (h2 : n ≤ d) (h3 : 1 ≤ d) (q : Nat) : -((q : Int) + 1) ≤ (befF n d q).1 ∧ (befF n d q).1 ≤ (q : Int) + 1 ∧ 1 ≤ (befF n d q).2 ∧ (befF n d q).2 ≤ (q : Int) + 1 := by
  rw [bef_nxt n d h3 q]
  have := nxt_bd (d - n) d (by omega) (by omega) h3 q
  simp only
  omega
theorem nxt_one (n d : Int) (h1 : 0 ≤ n) (h2 : n < d) : nxtF n d 1 = (1, 1) := by
  have : n / d = 0 := Int.ediv_eq_zero_of_lt h1 h2
  simp [nxtF, this]
theorem bef_one (n d : Int) (h1 : 0 < n) (h2 : n ≤ d) : befF n d 1 = (0, 1) := by
  rw [bef_nxt n d (by omega) 1, nxt_one (d - n) d (by omega) (by omega)]
  rfl
/-- NextFarey and BeforeFarey. -/
def nextM (N n d : Int) : Int × Int × Int := if chkM N 10000 n d = 0 then (if n = d then (0, 0, 3) else ((nxtF n d N.toNat).1, (nxtF n d N.toNat).2, 0)) else (0, 0, chkM N 10000 n d)
def befM (N n d : Int) : Int × Int × Int := if chkM N 10000 n d = 0 then (if n = 0 then (0, 0, 3) else ((befF n d N.toNat).1, (befF n d N.toNat).2, 0)) else (0, 0, chkM N 10000 n d)
theorem chk_zero {N M n d : Int} (h : chkM N M n d = 0) : 1 ≤ N ∧ N ≤ M ∧ 0 ≤ n ∧ n ≤ d ∧ okF n d = true := by
  cases h1 : okF n d
  · simp [chkM, h1] at h
  · simp only [chkM, h1, if_true] at h
    split at h
    · rename_i h2
      simp only [inB, Bool.and_eq_true, decide_eq_true_eq] at h2
      exact ⟨h2.1.1, h2.1.2, h2.2.1, h2.2.2, rfl⟩
    · simp at h

theorem Blk.later {w w' : World} {g B : Nat} {t : TypeId} {cs : Array Value} (h : Blk w g t cs) (hb : Below B w w') (hB : w.heap.size ≤ B) : Blk w' g t cs := h.below hb (Nat.lt_of_lt_of_le h.lt hB)
theorem blk_new1 (w : World) (t : TypeId) (cs : Array Value) (o o' : Obj) : Blk (((w.alloc (.cells cs t)).alloc o).alloc o') w.heap.size t cs := ((Blk.new w t cs).alloc o).alloc o'
theorem blk_new3 (w : World) (t : TypeId) (o o' : Obj) (cs : Array Value) : Blk (((w.alloc o).alloc o').alloc (.cells cs t)) (w.heap.size + 1 + 1) t cs := by
  have h := Blk.new ((w.alloc o).alloc o') t cs
  rw [World.size_alloc, World.size_alloc] at h
  exact h
theorem l02Sign_any (a b c d : Int) (a1 : -1000000000 ≤ a) (a2 : a ≤ 1000000000) (b1 : -1000000000 ≤ b) (b2 : b ≤ 1000000000) (c1 : -1000000000 ≤ c) (c2 : c ≤ 1000000000) (d1 : -1000000000 ≤ d) (d2 : d ≤ 1000000000) (w : World) :
    Calls Try.prog 115 #[.agg #[.int .i64 a, .int .i64 b], .agg #[.int .i64 c, .int .i64 d]] w (Ret w (.int .i64 (sgnF a b c d))) := by
  obtain ⟨m1, m2⟩ := mul_bd9 (a := a) (b := d) a1 a2 d1 d2
  obtain ⟨m3, m4⟩ := mul_bd9 (a := c) (b := b) c1 c2 b1 b2
  by_cases h1 : a * d < c * b
  · have e : sgnF a b c d = -1 := by simp [sgnF, h1]
    rw [e]; clear e
    go_enter Try.func115, Try.ntmps115
    go_wp2
    go_ret
    refine ⟨by first | rfl | (simp), ?_⟩
    repeat' (first | (with_reducible exact Below.refl _ _) | (with_reducible assumption) | (with_reducible refine Below.alloc ?_ ?_ _) | (with_reducible refine Below.drew ?_) | (with_reducible refine bdrewN ?_ _) | (with_reducible refine Below.setCell ?_ ?_ _) | (with_reducible refine bthen ?_ (by assumption) ?_) | go_size)
  · by_cases h2 : c * b < a * d
    · have e : sgnF a b c d = 1 := by simp [sgnF, h1, h2]
      rw [e]; clear e
      go_enter Try.func115, Try.ntmps115
      go_wp2
      go_ret
      refine ⟨by first | rfl | (simp), ?_⟩
      repeat' (first | (with_reducible exact Below.refl _ _) | (with_reducible assumption) | (with_reducible refine Below.alloc ?_ ?_ _) | (with_reducible refine Below.drew ?_) | (with_reducible refine bdrewN ?_ _) | (with_reducible refine Below.setCell ?_ ?_ _) | (with_reducible refine bthen ?_ (by assumption) ?_) | go_size)
    · have e : sgnF a b c d = 0 := by simp [sgnF, h1, h2]
      rw [e]; clear e
      go_enter Try.func115, Try.ntmps115
      go_wp2
      go_ret
      refine ⟨by first | rfl | (simp), ?_⟩
      repeat' (first | (with_reducible exact Below.refl _ _) | (with_reducible assumption) | (with_reducible refine Below.alloc ?_ ?_ _) | (with_reducible refine Below.drew ?_) | (with_reducible refine bdrewN ?_ _) | (with_reducible refine Below.setCell ?_ ?_ _) | (with_reducible refine bthen ?_ (by assumption) ?_) | go_size)
theorem l02Less_any (a b c d : Int) (a1 : -1000000000 ≤ a) (a2 : a ≤ 1000000000) (b1 : -1000000000 ≤ b) (b2 : b ≤ 1000000000) (c1 : -1000000000 ≤ c) (c2 : c ≤ 1000000000) (d1 : -1000000000 ≤ d) (d2 : d ≤ 1000000000) (r : Bool) (hr : decide (a * d < c * b) = r) (w : World) :
    Calls Try.prog 81 #[.agg #[.int .i64 a, .int .i64 b], .agg #[.int .i64 c, .int .i64 d]] w (Ret w (.bool r)) := by
  have hs : decide (sgnF a b c d < 0) = r := by
    rw [← hr]
    unfold sgnF
    by_cases h1 : a * d < c * b
    · simp [h1]
    · by_cases h2 : c * b < a * d
      · simp [h1, h2]
      · simp [h1, h2]
  subst hs
  clear hr
  go_enter Try.func81, Try.ntmps81
  go_wp2_with fail
  apply Calls.mono
  · with_reducible exact l02Sign_any _ _ _ _ a1 a2 b1 b2 c1 c2 d1 d2 _
  rintro _ w1 ⟨rfl, hb_w1⟩
  obtain ⟨hc_w1, hf_w1, hs_w1⟩ := bcell hb_w1
  try simp at hs_w1
  have hz_w1_w0 : w.heap.size < w1.heap.size := by omega
  have hy_w1_w0 : w.heap.size ≤ w1.heap.size := by omega
  have hx_w1_w0 : ∀ n : Nat, w.heap.size < w1.heap.size + n := by intro n; omega
  have hv_w1_w0 : ∀ n : Nat, w.heap.size ≤ w1.heap.size + n := by intro n; omega
  have hz_w1_w1 : w.heap.size + 1 < w1.heap.size := by omega
  have hy_w1_w1 : w.heap.size + 1 ≤ w1.heap.size := by omega
  have hx_w1_w1 : ∀ n : Nat, w.heap.size + 1 < w1.heap.size + n := by intro n; omega
  have hv_w1_w1 : ∀ n : Nat, w.heap.size + 1 ≤ w1.heap.size + n := by intro n; omega
  go_wp2
  go_ret
  refine ⟨by first | rfl | (simp), ?_⟩
  repeat' (first | (with_reducible exact Below.refl _ _) | (with_reducible assumption) | (with_reducible refine Below.alloc ?_ ?_ _) | (with_reducible refine Below.drew ?_) | (with_reducible refine bdrewN ?_ _) | (with_reducible refine Below.setCell ?_ ?_ _) | (with_reducible refine bthen ?_ (by assumption) ?_) | go_size)
def NxR (f : Nat → Int × Int) (w : World) (n d : Int) (tp gr g : Nat) (N : Nat) (k : Nat) (x : Value) (wr : World) : Prop :=
  ∃ q : Nat, q ≤ N ∧ N ≤ q + k ∧ x = .int .i64 ((q : Int) + 1) ∧ Blk wr g 24 #[.int .i64 (f q).1, .int .i64 (f q).2] ∧ Below w.heap.size w wr ∧
    Blk wr tp 24 #[.int .i64 n, .int .i64 d] ∧ Blk wr gr 24 #[.int .i64 0, .int .i64 0]
set_option maxHeartbeats 1000000 in
theorem l06Next_any (N n d : Int) (h1 : 1 ≤ N) (h2 : N ≤ 10000) (h3 : 0 ≤ n) (h4 : n ≤ d) (h5 : 1 ≤ d) (h6 : d ≤ 1000000000) (x y : Int) (hx : nxtF n d N.toNat = (x, y)) (w : World) :
    Calls Try.prog 90 #[.int .i64 N, .agg #[.int .i64 n, .int .i64 d]] w (Ret w (.agg #[.int .i64 x, .int .i64 y])) := by
  obtain ⟨M, rfl⟩ := Int.eq_ofNat_of_zero_le (show 0 ≤ N by omega)
  rw [Int.toNat_natCast] at hx
  have HX := Lib.hid hx
  clear hx
  go_enter Try.func90, Try.ntmps90
  go_wp2_with fail
  go_loopg [6] M (NxR (nxtF n d) w n d w.heap.size (w.heap.size + 1) (w.heap.size + 1 + 1) M)
  case atStart =>
    refine ⟨0, by omega, by omega, rfl, blk_new3 _ _ _ _ _, ?_, blk_new1 _ _ _ _ _, blk_new2 w _ _ _ _⟩
    repeat' (first | (with_reducible exact Below.refl _ _) | (with_reducible assumption) | (with_reducible refine Below.alloc ?_ ?_ _) | (with_reducible refine Below.drew ?_) | (with_reducible refine bdrewN ?_ _) | (with_reducible refine Below.setCell ?_ ?_ _) | (with_reducible refine bthen ?_ (by assumption) ?_) | go_size)
  case round =>
    obtain ⟨q, hq1, hq2, rfl, hB, hbw, hP, hR⟩ := hrel
    obtain ⟨n1, n2, n3, n4⟩ := nxt_bd n d h3 h4 h5 q
    have hun : nxtF n d (q + 1) = if (n * ((q : Int) + 1) / d + 1) * (nxtF n d q).2 < (nxtF n d q).1 * ((q : Int) + 1) then (n * ((q : Int) + 1) / d + 1, (q : Int) + 1) else nxtF n d q := rfl
    have HU := Lib.hid hun
    clear hun
    generalize hbb : nxtF n d q = b at *
    obtain ⟨bn, bd⟩ := b
    simp only at n1 n2 n3 n4 hB
    have HBB := Lib.hid hbb
    clear hbb
    have lB := hB.lt
    have lR := hR.lt
    have lP := hP.lt
    have c1 : wr.cell? ⟨w.heap.size, 0, none⟩ = some (.int .i64 n) := hP.cell 0
    have c2 : wr.cell? ⟨w.heap.size, 1, none⟩ = some (.int .i64 d) := hP.cell 1
    have c3 : wr.cell? ⟨w.heap.size + 1, 0, none⟩ = some (.int .i64 0) := hR.cell 0
    have c4 : wr.cell? ⟨w.heap.size + 1, 1, none⟩ = some (.int .i64 0) := hR.cell 1
    have c5 : wr.frozen? ⟨w.heap.size + 1, 0, none⟩ = false := hR.frozen 0
    have c6 : wr.frozen? ⟨w.heap.size + 1, 1, none⟩ = false := hR.frozen 1
    have d1 : wr.cell? ⟨w.heap.size + 1 + 1, 0, none⟩ = some (.int .i64 bn) := hB.cell 0
    have d2 : wr.cell? ⟨w.heap.size + 1 + 1, 1, none⟩ = some (.int .i64 bd) := hB.cell 1
    by_cases hqM : q < M
    · have hqM' : (q : Int) + 1 ≤ (M : Int) := by omega
      obtain ⟨p1, p2⟩ := nxt_q (n := n) (d := d) (q := (q : Int) + 1) h3 h4 h5 (by omega)
      obtain ⟨m1, m2⟩ := mul_bd (a := n) (b := (q : Int) + 1) (A := 1000000000) (B := 20000) (by omega) (by omega) (by omega) (by omega)
      clear c3 c4 c5 c6
      go_wp2_with fail
      apply Calls.mono
      · with_reducible exact l02Floor_any _ _ (by omega) (by omega) h5 (by omega) _
      rintro _ w1 ⟨rfl, hb_w1⟩
      generalize hp : n * ((q : Int) + 1) / d = p at *
      clear hp m1 m2 c1 c2 d1 d2
      have hB1 := hB.later hb_w1 (Nat.le_refl _)
      have hR1 := hR.later hb_w1 (Nat.le_refl _)
      have hP1 := hP.later hb_w1 (Nat.le_refl _)
      have d1 : w1.cell? ⟨w.heap.size + 1 + 1, 0, none⟩ = some (.int .i64 bn) := hB1.cell 0
      have d2 : w1.cell? ⟨w.heap.size + 1 + 1, 1, none⟩ = some (.int .i64 bd) := hB1.cell 1
      have s1 := hb_w1.size
      have z4 : w.heap.size + 1 + 1 < w1.heap.size := by omega
      cases hl : decide ((p + 1) * bd < bn * ((q : Int) + 1))
      · have HL := Lib.hid hl
        clear hl
        go_wp2_with fail
        apply Calls.mono
        · with_reducible exact l02Less_any _ _ _ _ (by omega) (by omega) (by omega) (by omega) (by omega) (by omega) (by omega) (by omega) _ HL.out _
        rintro _ w2 ⟨rfl, hb_w2⟩
        have hB2 := (hB1.alloc _).later hb_w2 (Nat.le_refl _)
        have hR2 := (hR1.alloc _).later hb_w2 (Nat.le_refl _)
        have hP2 := (hP1.alloc _).later hb_w2 (Nat.le_refl _)
        have s2 := hb_w2.size
        rw [World.size_alloc] at s2
        go_wp2
        go_roundg (gk - 1)
        case measure => omega
        case rel =>
          refine ⟨q + 1, by omega, by omega, by go_num, ?_, ?_, hP2, hR2⟩
          · rw [HU.out, if_neg (of_decide_eq_false HL.out)]
            exact hB2
          · repeat' (first | (with_reducible exact Below.refl _ _) | (with_reducible assumption) | (with_reducible refine Below.alloc ?_ ?_ _) | (with_reducible refine Below.drew ?_) | (with_reducible refine bdrewN ?_ _) | (with_reducible refine Below.setCell ?_ ?_ _) | (with_reducible refine bthen ?_ (by assumption) ?_) | go_size)
      · have HL := Lib.hid hl
        clear hl
        go_wp2_with fail
        apply Calls.mono
        · with_reducible exact l02Less_any _ _ _ _ (by omega) (by omega) (by omega) (by omega) (by omega) (by omega) (by omega) (by omega) _ HL.out _
        rintro _ w2 ⟨rfl, hb_w2⟩
        have hN1 := Blk.new w1 24 #[.int .i64 (p + 1), .int .i64 ((q : Int) + 1)]
        have hN2 := hN1.later hb_w2 (Nat.le_refl _)
        have hB2 := (hB1.alloc _).later hb_w2 (Nat.le_refl _)
        have hR2 := (hR1.alloc _).later hb_w2 (Nat.le_refl _)
        have hP2 := (hP1.alloc _).later hb_w2 (Nat.le_refl _)
        have s2 := hb_w2.size
        rw [World.size_alloc] at s2
        have f1 : w2.cell? ⟨w1.heap.size, 0, none⟩ = some (.int .i64 (p + 1)) := hN2.cell 0
        have f2 : w2.cell? ⟨w1.heap.size, 1, none⟩ = some (.int .i64 ((q : Int) + 1)) := hN2.cell 1
        have f3 : w2.cell? ⟨w.heap.size + 1 + 1, 0, none⟩ = some (.int .i64 bn) := hB2.cell 0
        have f4 : w2.cell? ⟨w.heap.size + 1 + 1, 1, none⟩ = some (.int .i64 bd) := hB2.cell 1
        have f5 : w2.frozen? ⟨w.heap.size + 1 + 1, 0, none⟩ = false := hB2.frozen 0
        have f6 : w2.frozen? ⟨w.heap.size + 1 + 1, 1, none⟩ = false := hB2.frozen 1
        go_wp2
        go_roundg (gk - 1)
        case measure => omega
        case rel =>
          refine ⟨q + 1, by omega, by omega, by go_num, ?_, ?_, ?_, ?_⟩
          · rw [HU.out, if_pos (of_decide_eq_true HL.out)]
            exact hB2.set2 _ _
          · repeat' (first | (with_reducible exact Below.refl _ _) | (with_reducible assumption) | (with_reducible refine Below.alloc ?_ ?_ _) | (with_reducible refine Below.drew ?_) | (with_reducible refine bdrewN ?_ _) | (with_reducible refine Below.setCell ?_ ?_ _) | (with_reducible refine bthen ?_ (by assumption) ?_) | go_size)
          · repeat' (first | (with_reducible assumption) | (with_reducible refine Blk.alloc ?_ _) | (with_reducible refine Blk.drew ?_) | (with_reducible refine Blk.set2 ?_ _ _) | (with_reducible refine Blk.far ?_ (by first | (simp; done) | (simp; omega)) _))
          · repeat' (first | (with_reducible assumption) | (with_reducible refine Blk.alloc ?_ _) | (with_reducible refine Blk.drew ?_) | (with_reducible refine Blk.set2 ?_ _ _) | (with_reducible refine Blk.far ?_ (by first | (simp; done) | (simp; omega)) _))
    · obtain rfl : q = M := by omega
      obtain ⟨rfl, rfl⟩ : bn = x ∧ bd = y := by
        have := HBB.out.symm.trans HX.out
        simpa using this
      clear c1 c2
      go_wp2
      refine bodyPost_ret (by simp [results, Try.results90, go_sem, *]; try rfl) rfl ?_
      refine ⟨by first | rfl | simp, ?_⟩
      repeat' (first | (with_reducible exact Below.refl _ _) | (with_reducible assumption) | (with_reducible refine Below.alloc ?_ ?_ _) | (with_reducible refine Below.drew ?_) | (with_reducible refine bdrewN ?_ _) | (with_reducible refine Below.setCell ?_ ?_ _) | (with_reducible refine bthen ?_ (by assumption) ?_) | go_size)
set_option maxHeartbeats 400000 in
theorem nextFareyS_any (N n d : Int) (w : World) : Calls Try.prog 43 #[.int .i64 N, .agg #[.int .i64 n, .int .i64 d]] w (Ret w (.tuple #[.agg #[.int .i64 (nextM N n d).1, .int .i64 (nextM N n d).2.1], .int .i64 (nextM N n d).2.2])) := by
  by_cases h0 : chkM N 10000 n d = 0
  · obtain ⟨a1, a2, a3, a4, a5⟩ := chk_zero h0
    obtain ⟨b1, b2, b3, b4⟩ := okF_bd a5
    have H0 := Lib.hid h0
    by_cases hnd : n = d
    · have e : nextM N n d = (0, 0, 3) := by unfold nextM; rw [if_pos h0, if_pos hnd]
      rw [e]; clear e
      subst hnd
      clear h0 a5
      go_enter Try.func43, Try.ntmps43
      go_wp2_with fail
      apply Calls.mono
      · with_reducible exact l06Code_any _ _ _ 0 H0.out _
      rintro _ w1 ⟨rfl, hb_w1⟩
      obtain ⟨hc_w1, hf_w1, hs_w1⟩ := bcell hb_w1
      try simp at hs_w1
      have hz_w1_w0 : w.heap.size < w1.heap.size := by omega
      have hy_w1_w0 : w.heap.size ≤ w1.heap.size := by omega
      have hx_w1_w0 : ∀ n : Nat, w.heap.size < w1.heap.size + n := by intro n; omega
      have hv_w1_w0 : ∀ n : Nat, w.heap.size ≤ w1.heap.size + n := by intro n; omega
      have hz_w1_w1 : w.heap.size + 1 < w1.heap.size := by omega
      have hy_w1_w1 : w.heap.size + 1 ≤ w1.heap.size := by omega
      have hx_w1_w1 : ∀ n : Nat, w.heap.size + 1 < w1.heap.size + n := by intro n; omega
      have hv_w1_w1 : ∀ n : Nat, w.heap.size + 1 ≤ w1.heap.size + n := by intro n; omega
      go_wp2
      refine bodyPost_ret (by simp [results, Try.results43, go_sem, *]; try rfl) rfl ?_
      refine ⟨by first | rfl | simp, ?_⟩
      repeat' (first | (with_reducible exact Below.refl _ _) | (with_reducible assumption) | (with_reducible refine Below.alloc ?_ ?_ _) | (with_reducible refine Below.drew ?_) | (with_reducible refine bdrewN ?_ _) | (with_reducible refine Below.setCell ?_ ?_ _) | (with_reducible refine bthen ?_ (by assumption) ?_) | go_size)
    · obtain ⟨⟨x, y⟩, hxy⟩ : ∃ b, nxtF n d N.toNat = b := ⟨_, rfl⟩
      have e : nextM N n d = (x, y, 0) := by simp [nextM, h0, hnd, hxy]
      rw [e]; clear e
      have hne : (n == d) = false := by simp [hnd]
      have HX := Lib.hid hxy
      clear h0 hnd hxy a5
      go_enter Try.func43, Try.ntmps43
      go_wp2_with fail
      apply Calls.mono
      · with_reducible exact l06Code_any _ _ _ 0 H0.out _
      rintro _ w1 ⟨rfl, hb_w1⟩
      obtain ⟨hc_w1, hf_w1, hs_w1⟩ := bcell hb_w1
      try simp at hs_w1
      have hz_w1_w0 : w.heap.size < w1.heap.size := by omega
      have hy_w1_w0 : w.heap.size ≤ w1.heap.size := by omega
      have hx_w1_w0 : ∀ n : Nat, w.heap.size < w1.heap.size + n := by intro n; omega
      have hv_w1_w0 : ∀ n : Nat, w.heap.size ≤ w1.heap.size + n := by intro n; omega
      have hz_w1_w1 : w.heap.size + 1 < w1.heap.size := by omega
      have hy_w1_w1 : w.heap.size + 1 ≤ w1.heap.size := by omega
      have hx_w1_w1 : ∀ n : Nat, w.heap.size + 1 < w1.heap.size + n := by intro n; omega
      have hv_w1_w1 : ∀ n : Nat, w.heap.size + 1 ≤ w1.heap.size + n := by intro n; omega
      go_wp2_with fail
      apply Calls.mono
      · with_reducible exact l06Next_any _ _ _ a1 a2 a3 a4 b1 (by omega) _ _ HX.out _
      rintro _ w2 ⟨rfl, hb_w2⟩
      obtain ⟨hc_w2, hf_w2, hs_w2⟩ := bcell hb_w2
      try simp at hs_w2
      have hz_w2_w0 : w.heap.size < w2.heap.size := by omega
      have hy_w2_w0 : w.heap.size ≤ w2.heap.size := by omega
      have hx_w2_w0 : ∀ n : Nat, w.heap.size < w2.heap.size + n := by intro n; omega
      have hv_w2_w0 : ∀ n : Nat, w.heap.size ≤ w2.heap.size + n := by intro n; omega
      have hz_w2_w1 : w.heap.size + 1 < w2.heap.size := by omega
      have hy_w2_w1 : w.heap.size + 1 ≤ w2.heap.size := by omega
      have hx_w2_w1 : ∀ n : Nat, w.heap.size + 1 < w2.heap.size + n := by intro n; omega
      have hv_w2_w1 : ∀ n : Nat, w.heap.size + 1 ≤ w2.heap.size + n := by intro n; omega
      go_wp2
      refine bodyPost_ret (by simp [results, Try.results43, go_sem, *]; try rfl) rfl ?_
      refine ⟨by first | rfl | simp, ?_⟩
      repeat' (first | (with_reducible exact Below.refl _ _) | (with_reducible assumption) | (with_reducible refine Below.alloc ?_ ?_ _) | (with_reducible refine Below.drew ?_) | (with_reducible refine bdrewN ?_ _) | (with_reducible refine Below.setCell ?_ ?_ _) | (with_reducible refine bthen ?_ (by assumption) ?_) | go_size)
  · have e : nextM N n d = (0, 0, chkM N 10000 n d) := by simp [nextM, h0]
    rw [e]; clear e
    have hne : (chkM N 10000 n d != 0) = true := by simpa using h0
    generalize hc : chkM N 10000 n d = c at *
    have HC := Lib.hid hc
    clear hc h0
    go_enter Try.func43, Try.ntmps43
    go_wp2_with fail
    apply Calls.mono
    · with_reducible exact l06Code_any _ _ _ c HC.out _
    rintro _ w1 ⟨rfl, hb_w1⟩
    obtain ⟨hc_w1, hf_w1, hs_w1⟩ := bcell hb_w1
    try simp at hs_w1
    have hz_w1_w0 : w.heap.size < w1.heap.size := by omega
    have hy_w1_w0 : w.heap.size ≤ w1.heap.size := by omega
    have hx_w1_w0 : ∀ n : Nat, w.heap.size < w1.heap.size + n := by intro n; omega
    have hv_w1_w0 : ∀ n : Nat, w.heap.size ≤ w1.heap.size + n := by intro n; omega
    have hz_w1_w1 : w.heap.size + 1 < w1.heap.size := by omega
    have hy_w1_w1 : w.heap.size + 1 ≤ w1.heap.size := by omega
    have hx_w1_w1 : ∀ n : Nat, w.heap.size + 1 < w1.heap.size + n := by intro n; omega
    have hv_w1_w1 : ∀ n : Nat, w.heap.size + 1 ≤ w1.heap.size + n := by intro n; omega
    go_wp2
    refine bodyPost_ret (by simp [results, Try.results43, go_sem, *]; try rfl) rfl ?_
    refine ⟨by first | rfl | simp, ?_⟩
    repeat' (first | (with_reducible exact Below.refl _ _) | (with_reducible assumption) | (with_reducible refine Below.alloc ?_ ?_ _) | (with_reducible refine Below.drew ?_) | (with_reducible refine bdrewN ?_ _) | (with_reducible refine Below.setCell ?_ ?_ _) | (with_reducible refine bthen ?_ (by assumption) ?_) | go_size)
theorem l06Back_any (n d : Int) (h1 : -1000000000 ≤ n) (h2 : n ≤ 1000000000) (h3 : -1000000000 ≤ d) (h4 : d ≤ 1000000000) (w : World) : Calls Try.prog 91 #[.agg #[.int .i64 n, .int .i64 d]] w (Ret w (.agg #[.int .i64 (d - n), .int .i64 d])) := by
  go_enter Try.func91, Try.ntmps91
  go_wp2
  refine bodyPost_ret (by simp [results, Try.results91, go_sem, *]; try rfl) rfl ?_
  refine ⟨by first | rfl | simp, ?_⟩
  repeat' (first | (with_reducible exact Below.refl _ _) | (with_reducible assumption) | (with_reducible refine Below.alloc ?_ ?_ _) | (with_reducible refine Below.drew ?_) | (with_reducible refine bdrewN ?_ _) | (with_reducible refine Below.setCell ?_ ?_ _) | (with_reducible refine bthen ?_ (by assumption) ?_) | go_size)
set_option maxHeartbeats 400000 in
theorem beforeFareyS_any (N n d : Int) (w : World) : Calls Try.prog 45 #[.int .i64 N, .agg #[.int .i64 n, .int .i64 d]] w (Ret w (.tuple #[.agg #[.int .i64 (befM N n d).1, .int .i64 (befM N n d).2.1], .int .i64 (befM N n d).2.2])) := by
  by_cases h0 : chkM N 10000 n d = 0
  · obtain ⟨a1, a2, a3, a4, a5⟩ := chk_zero h0
    obtain ⟨b1, b2, b3, b4⟩ := okF_bd a5
    have H0 := Lib.hid h0
    by_cases hn0 : n = 0
    · have e : befM N n d = (0, 0, 3) := by unfold befM; rw [if_pos h0, if_pos hn0]
      rw [e]; clear e
      subst hn0
      clear h0 a5
      go_enter Try.func45, Try.ntmps45
      go_wp2_with fail
      apply Calls.mono
      · with_reducible exact l06Code_any _ _ _ 0 H0.out _
      rintro _ w1 ⟨rfl, hb_w1⟩
      obtain ⟨hc_w1, hf_w1, hs_w1⟩ := bcell hb_w1
      try simp at hs_w1
      have hz_w1_w0 : w.heap.size < w1.heap.size := by omega
      have hy_w1_w0 : w.heap.size ≤ w1.heap.size := by omega
      have hx_w1_w0 : ∀ n : Nat, w.heap.size < w1.heap.size + n := by intro n; omega
      have hv_w1_w0 : ∀ n : Nat, w.heap.size ≤ w1.heap.size + n := by intro n; omega
      have hz_w1_w1 : w.heap.size + 1 < w1.heap.size := by omega
      have hy_w1_w1 : w.heap.size + 1 ≤ w1.heap.size := by omega
      have hx_w1_w1 : ∀ n : Nat, w.heap.size + 1 < w1.heap.size + n := by intro n; omega
      have hv_w1_w1 : ∀ n : Nat, w.heap.size + 1 ≤ w1.heap.size + n := by intro n; omega
      go_wp2
      refine bodyPost_ret (by simp [results, Try.results45, go_sem, *]; try rfl) rfl ?_
      refine ⟨by first | rfl | simp, ?_⟩
      repeat' (first | (with_reducible exact Below.refl _ _) | (with_reducible assumption) | (with_reducible refine Below.alloc ?_ ?_ _) | (with_reducible refine Below.drew ?_) | (with_reducible refine bdrewN ?_ _) | (with_reducible refine Below.setCell ?_ ?_ _) | (with_reducible refine bthen ?_ (by assumption) ?_) | go_size)
    · obtain ⟨⟨x, y⟩, hxy⟩ : ∃ b, nxtF (d - n) d N.toNat = b := ⟨_, rfl⟩
      have hb := nxt_bd (d - n) d (by omega) (by omega) b1 N.toNat
      rw [hxy] at hb
      simp only at hb
      have e : befM N n d = (y - x, y, 0) := by simp [befM, h0, hn0, bef_nxt n d b1, hxy]
      rw [e]; clear e
      have hne : (n == 0) = false := by simp [hn0]
      have HX := Lib.hid hxy
      clear h0 hn0 hxy a5
      go_enter Try.func45, Try.ntmps45
      go_wp2_with fail
      apply Calls.mono
      · with_reducible exact l06Code_any _ _ _ 0 H0.out _
      rintro _ w1 ⟨rfl, hb_w1⟩
      obtain ⟨hc_w1, hf_w1, hs_w1⟩ := bcell hb_w1
      try simp at hs_w1
      have hz_w1_w0 : w.heap.size < w1.heap.size := by omega
      have hy_w1_w0 : w.heap.size ≤ w1.heap.size := by omega
      have hx_w1_w0 : ∀ n : Nat, w.heap.size < w1.heap.size + n := by intro n; omega
      have hv_w1_w0 : ∀ n : Nat, w.heap.size ≤ w1.heap.size + n := by intro n; omega
      have hz_w1_w1 : w.heap.size + 1 < w1.heap.size := by omega
      have hy_w1_w1 : w.heap.size + 1 ≤ w1.heap.size := by omega
      have hx_w1_w1 : ∀ n : Nat, w.heap.size + 1 < w1.heap.size + n := by intro n; omega
      have hv_w1_w1 : ∀ n : Nat, w.heap.size + 1 ≤ w1.heap.size + n := by intro n; omega
      go_wp2_with fail
      apply Calls.mono
      · with_reducible exact l06Back_any _ _ (by omega) (by omega) (by omega) (by omega) _
      rintro _ w2 ⟨rfl, hb_w2⟩
      obtain ⟨hc_w2, hf_w2, hs_w2⟩ := bcell hb_w2
      try simp at hs_w2
      have hz_w2_w0 : w.heap.size < w2.heap.size := by omega
      have hy_w2_w0 : w.heap.size ≤ w2.heap.size := by omega
      have hx_w2_w0 : ∀ n : Nat, w.heap.size < w2.heap.size + n := by intro n; omega
      have hv_w2_w0 : ∀ n : Nat, w.heap.size ≤ w2.heap.size + n := by intro n; omega
      have hz_w2_w1 : w.heap.size + 1 < w2.heap.size := by omega
      have hy_w2_w1 : w.heap.size + 1 ≤ w2.heap.size := by omega
      have hx_w2_w1 : ∀ n : Nat, w.heap.size + 1 < w2.heap.size + n := by intro n; omega
      have hv_w2_w1 : ∀ n : Nat, w.heap.size + 1 ≤ w2.heap.size + n := by intro n; omega
      go_wp2_with fail
      apply Calls.mono
      · with_reducible exact l06Next_any _ _ _ a1 a2 (by omega) (by omega) b1 (by omega) _ _ HX.out _
      rintro _ w3 ⟨rfl, hb_w3⟩
      obtain ⟨hc_w3, hf_w3, hs_w3⟩ := bcell hb_w3
      try simp at hs_w3
      have hz_w3_w0 : w.heap.size < w3.heap.size := by omega
      have hy_w3_w0 : w.heap.size ≤ w3.heap.size := by omega
      have hx_w3_w0 : ∀ n : Nat, w.heap.size < w3.heap.size + n := by intro n; omega
      have hv_w3_w0 : ∀ n : Nat, w.heap.size ≤ w3.heap.size + n := by intro n; omega
      have hz_w3_w1 : w.heap.size + 1 < w3.heap.size := by omega
      have hy_w3_w1 : w.heap.size + 1 ≤ w3.heap.size := by omega
      have hx_w3_w1 : ∀ n : Nat, w.heap.size + 1 < w3.heap.size + n := by intro n; omega
      have hv_w3_w1 : ∀ n : Nat, w.heap.size + 1 ≤ w3.heap.size + n := by intro n; omega
      go_wp2_with fail
      apply Calls.mono
      · with_reducible exact l06Back_any _ _ (by omega) (by omega) (by omega) (by omega) _
      rintro _ w4 ⟨rfl, hb_w4⟩
      obtain ⟨hc_w4, hf_w4, hs_w4⟩ := bcell hb_w4
      try simp at hs_w4
      have hz_w4_w0 : w.heap.size < w4.heap.size := by omega
      have hy_w4_w0 : w.heap.size ≤ w4.heap.size := by omega
      have hx_w4_w0 : ∀ n : Nat, w.heap.size < w4.heap.size + n := by intro n; omega
      have hv_w4_w0 : ∀ n : Nat, w.heap.size ≤ w4.heap.size + n := by intro n; omega
      have hz_w4_w1 : w.heap.size + 1 < w4.heap.size := by omega
      have hy_w4_w1 : w.heap.size + 1 ≤ w4.heap.size := by omega
      have hx_w4_w1 : ∀ n : Nat, w.heap.size + 1 < w4.heap.size + n := by intro n; omega
      have hv_w4_w1 : ∀ n : Nat, w.heap.size + 1 ≤ w4.heap.size + n := by intro n; omega
      go_wp2
      refine bodyPost_ret (by simp [results, Try.results45, go_sem, *]; try rfl) rfl ?_
      refine ⟨by first | rfl | simp, ?_⟩
      repeat' (first | (with_reducible exact Below.refl _ _) | (with_reducible assumption) | (with_reducible refine Below.alloc ?_ ?_ _) | (with_reducible refine Below.drew ?_) | (with_reducible refine bdrewN ?_ _) | (with_reducible refine Below.setCell ?_ ?_ _) | (with_reducible refine bthen ?_ (by assumption) ?_) | go_size)
  · have e : befM N n d = (0, 0, chkM N 10000 n d) := by simp [befM, h0]
    rw [e]; clear e
    have hne : (chkM N 10000 n d != 0) = true := by simpa using h0
    generalize hc : chkM N 10000 n d = c at *
    have HC := Lib.hid hc
    clear hc h0
    go_enter Try.func45, Try.ntmps45
    go_wp2_with fail
    apply Calls.mono
    · with_reducible exact l06Code_any _ _ _ c HC.out _
    rintro _ w1 ⟨rfl, hb_w1⟩
    obtain ⟨hc_w1, hf_w1, hs_w1⟩ := bcell hb_w1
    try simp at hs_w1
    have hz_w1_w0 : w.heap.size < w1.heap.size := by omega
    have hy_w1_w0 : w.heap.size ≤ w1.heap.size := by omega
    have hx_w1_w0 : ∀ n : Nat, w.heap.size < w1.heap.size + n := by intro n; omega
    have hv_w1_w0 : ∀ n : Nat, w.heap.size ≤ w1.heap.size + n := by intro n; omega
    have hz_w1_w1 : w.heap.size + 1 < w1.heap.size := by omega
    have hy_w1_w1 : w.heap.size + 1 ≤ w1.heap.size := by omega
    have hx_w1_w1 : ∀ n : Nat, w.heap.size + 1 < w1.heap.size + n := by intro n; omega
    have hv_w1_w1 : ∀ n : Nat, w.heap.size + 1 ≤ w1.heap.size + n := by intro n; omega
    go_wp2
    refine bodyPost_ret (by simp [results, Try.results45, go_sem, *]; try rfl) rfl ?_
    refine ⟨by first | rfl | simp, ?_⟩
    repeat' (first | (with_reducible exact Below.refl _ _) | (with_reducible assumption) | (with_reducible refine Below.alloc ?_ ?_ _) | (with_reducible refine Below.drew ?_) | (with_reducible refine bdrewN ?_ _) | (with_reducible refine Below.setCell ?_ ?_ _) | (with_reducible refine bthen ?_ (by assumption) ?_) | go_size)
theorem blk_new1' (w : World) (t : TypeId) (cs : Array Value) (o : Obj) : Blk ((w.alloc (.cells cs t)).alloc o) w.heap.size t cs := (Blk.new w t cs).alloc o
theorem blk_new2' (w : World) (t : TypeId) (o : Obj) (cs : Array Value) : Blk ((w.alloc o).alloc (.cells cs t)) (w.heap.size + 1) t cs := by
  have h := Blk.new (w.alloc o) t cs
  rwa [World.size_alloc] at h
theorem bef_q {n d : Int} {q : Int} (h1 : 0 ≤ n) (h2 : n ≤ d) (h3 : 1 ≤ d) (hq : 0 ≤ q) : -q ≤ -n * q / d ∧ -n * q / d ≤ 0 := by
  constructor
  · rw [Int.le_ediv_iff_mul_le (by omega), Int.neg_mul, Int.neg_mul, Int.mul_comm q d]
    have := Int.mul_le_mul_of_nonneg_right h2 hq
    omega
  · refine Int.ediv_le_of_le_mul (by omega) ?_
    have := Int.mul_nonneg h1 hq
    rw [Int.neg_mul]; omega
set_option maxHeartbeats 1000000 in
theorem nextFareyI_any (N n d : Int) (w : World) : Calls Try.prog 42 #[.int .i64 N, .agg #[.int .i64 n, .int .i64 d]] w (Ret w (.tuple #[.agg #[.int .i64 (nextM N n d).1, .int .i64 (nextM N n d).2.1], .int .i64 (nextM N n d).2.2])) := by
  by_cases h0 : chkM N 10000 n d = 0
  · obtain ⟨a1, a2, a3, a4, a5⟩ := chk_zero h0
    obtain ⟨b1, b2, b3, b4⟩ := okF_bd a5
    have H0 := Lib.hid h0
    by_cases hnd : n = d
    · have e : nextM N n d = (0, 0, 3) := by unfold nextM; rw [if_pos h0, if_pos hnd]
      rw [e]; clear e
      subst hnd
      clear h0 a5
      go_enter Try.func42, Try.ntmps42
      go_wp2_with fail
      apply Calls.mono
      · with_reducible exact checkFarey_any _ _ _ _ 0 H0.out _
      rintro _ w1 ⟨rfl, hb_w1⟩
      obtain ⟨hc_w1, hf_w1, hs_w1⟩ := bcell hb_w1
      try simp at hs_w1
      have hz_w1_w0 : w.heap.size < w1.heap.size := by omega
      have hy_w1_w0 : w.heap.size ≤ w1.heap.size := by omega
      have hx_w1_w0 : ∀ n : Nat, w.heap.size < w1.heap.size + n := by intro n; omega
      have hv_w1_w0 : ∀ n : Nat, w.heap.size ≤ w1.heap.size + n := by intro n; omega
      have hz_w1_w1 : w.heap.size + 1 < w1.heap.size := by omega
      have hy_w1_w1 : w.heap.size + 1 ≤ w1.heap.size := by omega
      have hx_w1_w1 : ∀ n : Nat, w.heap.size + 1 < w1.heap.size + n := by intro n; omega
      have hv_w1_w1 : ∀ n : Nat, w.heap.size + 1 ≤ w1.heap.size + n := by intro n; omega
      go_wp2
      refine bodyPost_ret (by simp [results, Try.results42, go_sem, *]; try rfl) rfl ?_
      refine ⟨by first | rfl | simp, ?_⟩
      repeat' (first | (with_reducible exact Below.refl _ _) | (with_reducible assumption) | (with_reducible refine Below.alloc ?_ ?_ _) | (with_reducible refine Below.drew ?_) | (with_reducible refine bdrewN ?_ _) | (with_reducible refine Below.setCell ?_ ?_ _) | (with_reducible refine bthen ?_ (by assumption) ?_) | go_size)
    · obtain ⟨⟨x, y⟩, hxy⟩ : ∃ b, nxtF n d N.toNat = b := ⟨_, rfl⟩
      have e : nextM N n d = (x, y, 0) := by simp [nextM, h0, hnd, hxy]
      rw [e]; clear e
      have hne : (n == d) = false := by simp [hnd]
      obtain ⟨K, rfl⟩ := Int.eq_ofNat_of_zero_le (show 0 ≤ N by omega)
      rw [Int.toNat_natCast] at hxy
      have h1 := nxt_one n d (by omega) (by omega)
      have HX := Lib.hid hxy
      have H1 := Lib.hid h1
      clear h0 hnd hxy a5 h1
      go_enter Try.func42, Try.ntmps42
      go_wp2_with fail
      apply Calls.mono
      · with_reducible exact checkFarey_any _ _ _ _ 0 H0.out _
      rintro _ w1 ⟨rfl, hb_w1⟩
      obtain ⟨hc_w1, hf_w1, hs_w1⟩ := bcell hb_w1
      try simp at hs_w1
      have hz_w1_w0 : w.heap.size < w1.heap.size := by omega
      have hy_w1_w0 : w.heap.size ≤ w1.heap.size := by omega
      have hx_w1_w0 : ∀ n : Nat, w.heap.size < w1.heap.size + n := by intro n; omega
      have hv_w1_w0 : ∀ n : Nat, w.heap.size ≤ w1.heap.size + n := by intro n; omega
      have hz_w1_w1 : w.heap.size + 1 < w1.heap.size := by omega
      have hy_w1_w1 : w.heap.size + 1 ≤ w1.heap.size := by omega
      have hx_w1_w1 : ∀ n : Nat, w.heap.size + 1 < w1.heap.size + n := by intro n; omega
      have hv_w1_w1 : ∀ n : Nat, w.heap.size + 1 ≤ w1.heap.size + n := by intro n; omega
      have hP1 := (blk_new1' w 24 #[.int .i64 n, .int .i64 d] (.cells #[.int .i64 0, .int .i64 0] 24)).later hb_w1 (Nat.le_refl _)
      have hR1 := (blk_new2' w 24 (.cells #[.int .i64 n, .int .i64 d] 24) #[.int .i64 0, .int .i64 0]).later hb_w1 (Nat.le_refl _)
      have g1 : w.heap.size ≠ w1.heap.size := by omega
      have g2 : w.heap.size + 1 ≠ w1.heap.size := by omega
      go_wp2_with fail
      go_loopg [8] K (NxR (nxtF n d) w n d w.heap.size (w.heap.size + 1) w1.heap.size K)
      case atStart =>
        refine ⟨1, by omega, by omega, rfl, ?_, ?_, hP1.alloc _, hR1.alloc _⟩
        · rw [H1.out]; exact Blk.new w1 _ _
        · repeat' (first | (with_reducible exact Below.refl _ _) | (with_reducible assumption) | (with_reducible refine Below.alloc ?_ ?_ _) | (with_reducible refine Below.drew ?_) | (with_reducible refine bdrewN ?_ _) | (with_reducible refine Below.setCell ?_ ?_ _) | (with_reducible refine bthen ?_ (by assumption) ?_) | go_size)
      case round =>
        obtain ⟨q, hq1, hq2, rfl, hB, hbw, hP, hR⟩ := hrel
        obtain ⟨n1, n2, n3, n4⟩ := nxt_bd n d a3 a4 b1 q
        have hun : nxtF n d (q + 1) = if (n * ((q : Int) + 1) / d + 1) * (nxtF n d q).2 < (nxtF n d q).1 * ((q : Int) + 1) then (n * ((q : Int) + 1) / d + 1, (q : Int) + 1) else nxtF n d q := rfl
        have HU := Lib.hid hun
        clear hun
        generalize hbb : nxtF n d q = b at *
        obtain ⟨bn, bd⟩ := b
        simp only at n1 n2 n3 n4 hB
        have HBB := Lib.hid hbb
        clear hbb
        have lB := hB.lt
        have lR := hR.lt
        have lP := hP.lt
        have c1 : wr.cell? ⟨w.heap.size, 0, none⟩ = some (.int .i64 n) := hP.cell 0
        have c2 : wr.cell? ⟨w.heap.size, 1, none⟩ = some (.int .i64 d) := hP.cell 1
        have c3 : wr.cell? ⟨w.heap.size + 1, 0, none⟩ = some (.int .i64 0) := hR.cell 0
        have c4 : wr.cell? ⟨w.heap.size + 1, 1, none⟩ = some (.int .i64 0) := hR.cell 1
        have c5 : wr.frozen? ⟨w.heap.size + 1, 0, none⟩ = false := hR.frozen 0
        have c6 : wr.frozen? ⟨w.heap.size + 1, 1, none⟩ = false := hR.frozen 1
        have d1 : wr.cell? ⟨w1.heap.size, 0, none⟩ = some (.int .i64 bn) := hB.cell 0
        have d2 : wr.cell? ⟨w1.heap.size, 1, none⟩ = some (.int .i64 bd) := hB.cell 1
        clear hc_w1 hf_w1
        by_cases hqM : q < K
        · have hqM' : (q : Int) + 1 ≤ (K : Int) := by omega
          obtain ⟨p1, p2⟩ := nxt_q (n := n) (d := d) (q := (q : Int) + 1) a3 a4 b1 (by omega)
          obtain ⟨m1, m2⟩ := mul_bd (a := n) (b := (q : Int) + 1) (A := 1000000000) (B := 20000) (by omega) (by omega) (by omega) (by omega)
          have m3 : -n * ((q : Int) + 1) = -(n * ((q : Int) + 1)) := Int.neg_mul _ _
          have M3 := Lib.hid m3
          have m4 : -20000000000000 ≤ -n * ((q : Int) + 1) := by omega
          have m5 : -n * ((q : Int) + 1) ≤ 20000000000000 := by omega
          clear c3 c4 c5 c6 m3
          go_wp2_with fail
          apply Calls.mono
          · with_reducible exact floorDiv_any _ _ (by omega) (by omega) b1 (by omega) _
          rintro _ w2 ⟨rfl, hb_w2⟩
          generalize hp : n * ((q : Int) + 1) / d = p at *
          clear hp m1 m2 m4 m5 c1 c2 d1 d2
          have hB1 := hB.later hb_w2 (Nat.le_refl _)
          have hR1 := hR.later hb_w2 (Nat.le_refl _)
          have hP1 := hP.later hb_w2 (Nat.le_refl _)
          have d1 : w2.cell? ⟨w1.heap.size, 0, none⟩ = some (.int .i64 bn) := hB1.cell 0
          have d2 : w2.cell? ⟨w1.heap.size, 1, none⟩ = some (.int .i64 bd) := hB1.cell 1
          have f5 : w2.frozen? ⟨w1.heap.size, 0, none⟩ = false := hB1.frozen 0
          have f6 : w2.frozen? ⟨w1.heap.size, 1, none⟩ = false := hB1.frozen 1
          have s2 := hb_w2.size
          obtain ⟨v1, v2⟩ := mul_bd (a := bn) (b := (q : Int) + 1) (A := 20000) (B := 20000) (by omega) (by omega) (by omega) (by omega)
          obtain ⟨v3, v4⟩ := mul_bd (a := p + 1) (b := bd) (A := 40000) (B := 20000) (by omega) (by omega) (by omega) (by omega)
          by_cases hl : (p + 1) * bd < bn * ((q : Int) + 1)
          · have HL := Lib.hid hl
            go_wp2
            go_roundg (gk - 1)
            case measure => omega
            case rel =>
              refine ⟨q + 1, by omega, by omega, by go_num, ?_, ?_, ?_, ?_⟩
              · rw [HU.out, if_pos HL.out]
                exact hB1.set2 _ _
              · repeat' (first | (with_reducible exact Below.refl _ _) | (with_reducible assumption) | (with_reducible refine Below.alloc ?_ ?_ _) | (with_reducible refine Below.drew ?_) | (with_reducible refine bdrewN ?_ _) | (with_reducible refine Below.setCell ?_ ?_ _) | (with_reducible refine bthen ?_ (by assumption) ?_) | go_size)
              · repeat' (first | (with_reducible assumption) | (with_reducible refine Blk.alloc ?_ _) | (with_reducible refine Blk.drew ?_) | (with_reducible refine Blk.set2 ?_ _ _) | (with_reducible refine Blk.far ?_ (by first | (simp; done) | (simp; omega)) _))
              · repeat' (first | (with_reducible assumption) | (with_reducible refine Blk.alloc ?_ _) | (with_reducible refine Blk.drew ?_) | (with_reducible refine Blk.set2 ?_ _ _) | (with_reducible refine Blk.far ?_ (by first | (simp; done) | (simp; omega)) _))
          · have HL := Lib.hid hl
            go_wp2
            go_roundg (gk - 1)
            case measure => omega
            case rel =>
              refine ⟨q + 1, by omega, by omega, by go_num, ?_, ?_, hP1, hR1⟩
              · rw [HU.out, if_neg (Int.not_lt.2 HL.out)]
                exact hB1
              · repeat' (first | (with_reducible exact Below.refl _ _) | (with_reducible assumption) | (with_reducible refine Below.alloc ?_ ?_ _) | (with_reducible refine Below.drew ?_) | (with_reducible refine bdrewN ?_ _) | (with_reducible refine Below.setCell ?_ ?_ _) | (with_reducible refine bthen ?_ (by assumption) ?_) | go_size)
        · obtain rfl : q = K := by omega
          obtain ⟨rfl, rfl⟩ : bn = x ∧ bd = y := by
            have := HBB.out.symm.trans HX.out
            simpa using this
          clear c1 c2
          go_wp2
          refine bodyPost_ret (by simp [results, Try.results42, go_sem, *]; try rfl) rfl ?_
          refine ⟨by first | rfl | simp, ?_⟩
          repeat' (first | (with_reducible exact Below.refl _ _) | (with_reducible assumption) | (with_reducible refine Below.alloc ?_ ?_ _) | (with_reducible refine Below.drew ?_) | (with_reducible refine bdrewN ?_ _) | (with_reducible refine Below.setCell ?_ ?_ _) | (with_reducible refine bthen ?_ (by assumption) ?_) | go_size)
  · have e : nextM N n d = (0, 0, chkM N 10000 n d) := by simp [nextM, h0]
    rw [e]; clear e
    have hne : (chkM N 10000 n d != 0) = true := by simpa using h0
    generalize hc : chkM N 10000 n d = c at *
    have HC := Lib.hid hc
    clear hc h0
    go_enter Try.func42, Try.ntmps42
    go_wp2_with fail
    apply Calls.mono
    · with_reducible exact checkFarey_any _ _ _ _ c HC.out _
    rintro _ w1 ⟨rfl, hb_w1⟩
    obtain ⟨hc_w1, hf_w1, hs_w1⟩ := bcell hb_w1
    try simp at hs_w1
    have hz_w1_w0 : w.heap.size < w1.heap.size := by omega
    have hy_w1_w0 : w.heap.size ≤ w1.heap.size := by omega
    have hx_w1_w0 : ∀ n : Nat, w.heap.size < w1.heap.size + n := by intro n; omega
    have hv_w1_w0 : ∀ n : Nat, w.heap.size ≤ w1.heap.size + n := by intro n; omega
    have hz_w1_w1 : w.heap.size + 1 < w1.heap.size := by omega
    have hy_w1_w1 : w.heap.size + 1 ≤ w1.heap.size := by omega
    have hx_w1_w1 : ∀ n : Nat, w.heap.size + 1 < w1.heap.size + n := by intro n; omega
    have hv_w1_w1 : ∀ n : Nat, w.heap.size + 1 ≤ w1.heap.size + n := by intro n; omega
    go_wp2
    refine bodyPost_ret (by simp [results, Try.results42, go_sem, *]; try rfl) rfl ?_
    refine ⟨by first | rfl | simp, ?_⟩
    repeat' (first | (with_reducible exact Below.refl _ _) | (with_reducible assumption) | (with_reducible refine Below.alloc ?_ ?_ _) | (with_reducible refine Below.drew ?_) | (with_reducible refine bdrewN ?_ _) | (with_reducible refine Below.setCell ?_ ?_ _) | (with_reducible refine bthen ?_ (by assumption) ?_) | go_size)
set_option maxHeartbeats 1000000 in
theorem beforeFareyI_any (N n d : Int) (w : World) : Calls Try.prog 44 #[.int .i64 N, .agg #[.int .i64 n, .int .i64 d]] w (Ret w (.tuple #[.agg #[.int .i64 (befM N n d).1, .int .i64 (befM N n d).2.1], .int .i64 (befM N n d).2.2])) := by
  by_cases h0 : chkM N 10000 n d = 0
  · obtain ⟨a1, a2, a3, a4, a5⟩ := chk_zero h0
    obtain ⟨b1, b2, b3, b4⟩ := okF_bd a5
    have H0 := Lib.hid h0
    by_cases hnd : n = 0
    · have e : befM N n d = (0, 0, 3) := by unfold befM; rw [if_pos h0, if_pos hnd]
      rw [e]; clear e
      subst hnd
      clear h0 a5
      go_enter Try.func44, Try.ntmps44
      go_wp2_with fail
      apply Calls.mono
      · with_reducible exact checkFarey_any _ _ _ _ 0 H0.out _
      rintro _ w1 ⟨rfl, hb_w1⟩
      obtain ⟨hc_w1, hf_w1, hs_w1⟩ := bcell hb_w1
      try simp at hs_w1
      have hz_w1_w0 : w.heap.size < w1.heap.size := by omega
      have hy_w1_w0 : w.heap.size ≤ w1.heap.size := by omega
      have hx_w1_w0 : ∀ n : Nat, w.heap.size < w1.heap.size + n := by intro n; omega
      have hv_w1_w0 : ∀ n : Nat, w.heap.size ≤ w1.heap.size + n := by intro n; omega
      have hz_w1_w1 : w.heap.size + 1 < w1.heap.size := by omega
      have hy_w1_w1 : w.heap.size + 1 ≤ w1.heap.size := by omega
      have hx_w1_w1 : ∀ n : Nat, w.heap.size + 1 < w1.heap.size + n := by intro n; omega
      have hv_w1_w1 : ∀ n : Nat, w.heap.size + 1 ≤ w1.heap.size + n := by intro n; omega
      go_wp2
      refine bodyPost_ret (by simp [results, Try.results44, go_sem, *]; try rfl) rfl ?_
      refine ⟨by first | rfl | simp, ?_⟩
      repeat' (first | (with_reducible exact Below.refl _ _) | (with_reducible assumption) | (with_reducible refine Below.alloc ?_ ?_ _) | (with_reducible refine Below.drew ?_) | (with_reducible refine bdrewN ?_ _) | (with_reducible refine Below.setCell ?_ ?_ _) | (with_reducible refine bthen ?_ (by assumption) ?_) | go_size)
    · obtain ⟨⟨x, y⟩, hxy⟩ : ∃ b, befF n d N.toNat = b := ⟨_, rfl⟩
      have e : befM N n d = (x, y, 0) := by simp [befM, h0, hnd, hxy]
      rw [e]; clear e
      have hne : (n == 0) = false := by simp [hnd]
      obtain ⟨K, rfl⟩ := Int.eq_ofNat_of_zero_le (show 0 ≤ N by omega)
      rw [Int.toNat_natCast] at hxy
      have h1 := bef_one n d (by omega) (by omega)
      have HX := Lib.hid hxy
      have H1 := Lib.hid h1
      clear h0 hnd hxy a5 h1
      go_enter Try.func44, Try.ntmps44
      go_wp2_with fail
      apply Calls.mono
      · with_reducible exact checkFarey_any _ _ _ _ 0 H0.out _
      rintro _ w1 ⟨rfl, hb_w1⟩
      obtain ⟨hc_w1, hf_w1, hs_w1⟩ := bcell hb_w1
      try simp at hs_w1
      have hz_w1_w0 : w.heap.size < w1.heap.size := by omega
      have hy_w1_w0 : w.heap.size ≤ w1.heap.size := by omega
      have hx_w1_w0 : ∀ n : Nat, w.heap.size < w1.heap.size + n := by intro n; omega
      have hv_w1_w0 : ∀ n : Nat, w.heap.size ≤ w1.heap.size + n := by intro n; omega
      have hz_w1_w1 : w.heap.size + 1 < w1.heap.size := by omega
      have hy_w1_w1 : w.heap.size + 1 ≤ w1.heap.size := by omega
      have hx_w1_w1 : ∀ n : Nat, w.heap.size + 1 < w1.heap.size + n := by intro n; omega
      have hv_w1_w1 : ∀ n : Nat, w.heap.size + 1 ≤ w1.heap.size + n := by intro n; omega
      have hP1 := (blk_new1' w 24 #[.int .i64 n, .int .i64 d] (.cells #[.int .i64 0, .int .i64 0] 24)).later hb_w1 (Nat.le_refl _)
      have hR1 := (blk_new2' w 24 (.cells #[.int .i64 n, .int .i64 d] 24) #[.int .i64 0, .int .i64 0]).later hb_w1 (Nat.le_refl _)
      have g1 : w.heap.size ≠ w1.heap.size := by omega
      have g2 : w.heap.size + 1 ≠ w1.heap.size := by omega
      go_wp2_with fail
      go_loopg [8] K (NxR (befF n d) w n d w.heap.size (w.heap.size + 1) w1.heap.size K)
      case atStart =>
        refine ⟨1, by omega, by omega, rfl, ?_, ?_, hP1.alloc _, hR1.alloc _⟩
        · rw [H1.out]; exact Blk.new w1 _ _
        · repeat' (first | (with_reducible exact Below.refl _ _) | (with_reducible assumption) | (with_reducible refine Below.alloc ?_ ?_ _) | (with_reducible refine Below.drew ?_) | (with_reducible refine bdrewN ?_ _) | (with_reducible refine Below.setCell ?_ ?_ _) | (with_reducible refine bthen ?_ (by assumption) ?_) | go_size)
      case round =>
        obtain ⟨q, hq1, hq2, rfl, hB, hbw, hP, hR⟩ := hrel
        obtain ⟨n1, n2, n3, n4⟩ := bef_bd n d a3 a4 b1 q
        have hun : befF n d (q + 1) = if (befF n d q).1 * ((q : Int) + 1) < (-(-n * ((q : Int) + 1) / d) - 1) * (befF n d q).2 then (-(-n * ((q : Int) + 1) / d) - 1, (q : Int) + 1) else befF n d q := rfl
        have HU := Lib.hid hun
        clear hun
        generalize hbb : befF n d q = b at *
        obtain ⟨bn, bd⟩ := b
        simp only at n1 n2 n3 n4 hB
        have HBB := Lib.hid hbb
        clear hbb
        have lB := hB.lt
        have lR := hR.lt
        have lP := hP.lt
        have c1 : wr.cell? ⟨w.heap.size, 0, none⟩ = some (.int .i64 n) := hP.cell 0
        have c2 : wr.cell? ⟨w.heap.size, 1, none⟩ = some (.int .i64 d) := hP.cell 1
        have c3 : wr.cell? ⟨w.heap.size + 1, 0, none⟩ = some (.int .i64 0) := hR.cell 0
        have c4 : wr.cell? ⟨w.heap.size + 1, 1, none⟩ = some (.int .i64 0) := hR.cell 1
        have c5 : wr.frozen? ⟨w.heap.size + 1, 0, none⟩ = false := hR.frozen 0
        have c6 : wr.frozen? ⟨w.heap.size + 1, 1, none⟩ = false := hR.frozen 1
        have d1 : wr.cell? ⟨w1.heap.size, 0, none⟩ = some (.int .i64 bn) := hB.cell 0
        have d2 : wr.cell? ⟨w1.heap.size, 1, none⟩ = some (.int .i64 bd) := hB.cell 1
        clear hc_w1 hf_w1
        by_cases hqM : q < K
        · have hqM' : (q : Int) + 1 ≤ (K : Int) := by omega
          obtain ⟨p1, p2⟩ := bef_q (n := n) (d := d) (q := (q : Int) + 1) a3 a4 b1 (by omega)
          obtain ⟨m1, m2⟩ := mul_bd (a := n) (b := (q : Int) + 1) (A := 1000000000) (B := 20000) (by omega) (by omega) (by omega) (by omega)
          have m3 : -n * ((q : Int) + 1) = -(n * ((q : Int) + 1)) := Int.neg_mul _ _
          have M3 := Lib.hid m3
          have m4 : -20000000000000 ≤ -n * ((q : Int) + 1) := by omega
          have m5 : -n * ((q : Int) + 1) ≤ 20000000000000 := by omega
          clear c3 c4 c5 c6 m3
          go_wp2_with fail
          apply Calls.mono
          · with_reducible exact floorDiv_any _ _ (by omega) (by omega) b1 (by omega) _
          rintro _ w2 ⟨rfl, hb_w2⟩
          generalize hp : -n * ((q : Int) + 1) / d = p at *
          clear hp m1 m2 m4 m5 c1 c2 d1 d2
          have hB1 := hB.later hb_w2 (Nat.le_refl _)
          have hR1 := hR.later hb_w2 (Nat.le_refl _)
          have hP1 := hP.later hb_w2 (Nat.le_refl _)
          have d1 : w2.cell? ⟨w1.heap.size, 0, none⟩ = some (.int .i64 bn) := hB1.cell 0
          have d2 : w2.cell? ⟨w1.heap.size, 1, none⟩ = some (.int .i64 bd) := hB1.cell 1
          have f5 : w2.frozen? ⟨w1.heap.size, 0, none⟩ = false := hB1.frozen 0
          have f6 : w2.frozen? ⟨w1.heap.size, 1, none⟩ = false := hB1.frozen 1
          have s2 := hb_w2.size
          obtain ⟨v1, v2⟩ := mul_bd (a := bn) (b := (q : Int) + 1) (A := 20000) (B := 20000) (by omega) (by omega) (by omega) (by omega)
          obtain ⟨v3, v4⟩ := mul_bd (a := -p - 1) (b := bd) (A := 40000) (B := 20000) (by omega) (by omega) (by omega) (by omega)
          by_cases hl : bn * ((q : Int) + 1) < (-p - 1) * bd
          · have HL := Lib.hid hl
            go_wp2
            go_roundg (gk - 1)
            case measure => omega
            case rel =>
              refine ⟨q + 1, by omega, by omega, by go_num, ?_, ?_, ?_, ?_⟩
              · rw [HU.out, if_pos HL.out]
                exact hB1.set2 _ _
              · repeat' (first | (with_reducible exact Below.refl _ _) | (with_reducible assumption) | (with_reducible refine Below.alloc ?_ ?_ _) | (with_reducible refine Below.drew ?_) | (with_reducible refine bdrewN ?_ _) | (with_reducible refine Below.setCell ?_ ?_ _) | (with_reducible refine bthen ?_ (by assumption) ?_) | go_size)
              · repeat' (first | (with_reducible assumption) | (with_reducible refine Blk.alloc ?_ _) | (with_reducible refine Blk.drew ?_) | (with_reducible refine Blk.set2 ?_ _ _) | (with_reducible refine Blk.far ?_ (by first | (simp; done) | (simp; omega)) _))
              · repeat' (first | (with_reducible assumption) | (with_reducible refine Blk.alloc ?_ _) | (with_reducible refine Blk.drew ?_) | (with_reducible refine Blk.set2 ?_ _ _) | (with_reducible refine Blk.far ?_ (by first | (simp; done) | (simp; omega)) _))
          · have HL := Lib.hid hl
            go_wp2
            go_roundg (gk - 1)
            case measure => omega
            case rel =>
              refine ⟨q + 1, by omega, by omega, by go_num, ?_, ?_, hP1, hR1⟩
              · rw [HU.out, if_neg (Int.not_lt.2 HL.out)]
                exact hB1
              · repeat' (first | (with_reducible exact Below.refl _ _) | (with_reducible assumption) | (with_reducible refine Below.alloc ?_ ?_ _) | (with_reducible refine Below.drew ?_) | (with_reducible refine bdrewN ?_ _) | (with_reducible refine Below.setCell ?_ ?_ _) | (with_reducible refine bthen ?_ (by assumption) ?_) | go_size)
        · obtain rfl : q = K := by omega
          obtain ⟨rfl, rfl⟩ : bn = x ∧ bd = y := by
            have := HBB.out.symm.trans HX.out
            simpa using this
          clear c1 c2
          go_wp2
          refine bodyPost_ret (by simp [results, Try.results44, go_sem, *]; try rfl) rfl ?_
          refine ⟨by first | rfl | simp, ?_⟩
          repeat' (first | (with_reducible exact Below.refl _ _) | (with_reducible assumption) | (with_reducible refine Below.alloc ?_ ?_ _) | (with_reducible refine Below.drew ?_) | (with_reducible refine bdrewN ?_ _) | (with_reducible refine Below.setCell ?_ ?_ _) | (with_reducible refine bthen ?_ (by assumption) ?_) | go_size)
  · have e : befM N n d = (0, 0, chkM N 10000 n d) := by simp [befM, h0]
    rw [e]; clear e
    have hne : (chkM N 10000 n d != 0) = true := by simpa using h0
    generalize hc : chkM N 10000 n d = c at *
    have HC := Lib.hid hc
    clear hc h0
    go_enter Try.func44, Try.ntmps44
    go_wp2_with fail
    apply Calls.mono
    · with_reducible exact checkFarey_any _ _ _ _ c HC.out _
    rintro _ w1 ⟨rfl, hb_w1⟩
    obtain ⟨hc_w1, hf_w1, hs_w1⟩ := bcell hb_w1
    try simp at hs_w1
    have hz_w1_w0 : w.heap.size < w1.heap.size := by omega
    have hy_w1_w0 : w.heap.size ≤ w1.heap.size := by omega
    have hx_w1_w0 : ∀ n : Nat, w.heap.size < w1.heap.size + n := by intro n; omega
    have hv_w1_w0 : ∀ n : Nat, w.heap.size ≤ w1.heap.size + n := by intro n; omega
    have hz_w1_w1 : w.heap.size + 1 < w1.heap.size := by omega
    have hy_w1_w1 : w.heap.size + 1 ≤ w1.heap.size := by omega
    have hx_w1_w1 : ∀ n : Nat, w.heap.size + 1 < w1.heap.size + n := by intro n; omega
    have hv_w1_w1 : ∀ n : Nat, w.heap.size + 1 ≤ w1.heap.size + n := by intro n; omega
    go_wp2
    refine bodyPost_ret (by simp [results, Try.results44, go_sem, *]; try rfl) rfl ?_
    refine ⟨by first | rfl | simp, ?_⟩
    repeat' (first | (with_reducible exact Below.refl _ _) | (with_reducible assumption) | (with_reducible refine Below.alloc ?_ ?_ _) | (with_reducible refine Below.drew ?_) | (with_reducible refine bdrewN ?_ _) | (with_reducible refine Below.setCell ?_ ?_ _) | (with_reducible refine bthen ?_ (by assumption) ?_) | go_size)
end Go.Proofs.Ytlmmpeeacjbobaa
