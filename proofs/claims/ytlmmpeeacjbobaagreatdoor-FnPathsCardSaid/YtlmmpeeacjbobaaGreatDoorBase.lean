/-
  Contracts of the smallest functions of both packages: bounds, absolute values, signs, greatest common divisors, divisions.
-/
import Derived.Test.YtlmmpeeacjbobaaGreatDoorRows
import Derived.WalkKit
import Derived.WalkSpells
import Derived.WalkLawsBesides
import Derived.BigQuiet
import Derived.Deep.QuietTactic
import Derived.Deep.LoopGhost
import Derived.Lib.Hide
import Derived.Handy
namespace Go.Proofs.YtlmmpeeacjbobaaGreatDoor
open Go.RowKit

/-! ### The form of most contracts -/

/-- The call returns v, and nothing that was there has turned. -/
def Ret (w : World) (v : Value) (e : Ending) (w' : World) : Prop := e = .returned v ∧ Below w.heap.size w w'
theorem Ret.refl (w : World) (v : Value) : Ret w v (.returned v) w := ⟨rfl, Below.refl _ _⟩

theorem bthen {B B' : Nat} {a b c : World} (h : Below B a b) (k : Below B' b c) (hB : B ≤ B') : Below B a c := h.trans (k.mono hB)
theorem bdrewN {B : Nat} {a b : World} (h : Below B a b) (n : Nat) : Below B a (b.drewN n) := ⟨h.os, h.tape, h.output, h.size, h.block⟩

/-- What a walk uses of a world behind a call: old cells and marks read as before; no block has gone. -/
theorem bcell {B : Nat} {W w1 : World} (hb : Below B W w1) : (∀ b o, b < B → w1.cell? ⟨b, o, none⟩ = W.cell? ⟨b, o, none⟩) ∧ (∀ b o, b < B → w1.frozen? ⟨b, o, none⟩ = W.frozen? ⟨b, o, none⟩) ∧ W.heap.size ≤ w1.heap.size :=
  ⟨fun b o h => hb.cell (p := ⟨b, o, none⟩) h, fun b o h => hb.frozen (p := ⟨b, o, none⟩) h, hb.size⟩

/-- A world behind w in which nothing that was there has turned. -/
def Later (w : World) := { w' : World // Below w.heap.size w w' }
instance (w : World) : Nonempty (Later w) := ⟨⟨w, Below.refl _ _⟩⟩
theorem Later.cell {w : World} (x : Later w) (b o : Nat) (h : b < w.heap.size) : x.val.cell? ⟨b, o, none⟩ = w.cell? ⟨b, o, none⟩ := x.property.cell (p := ⟨b, o, none⟩) h
theorem Later.frozen {w : World} (x : Later w) (b o : Nat) (h : b < w.heap.size) : x.val.frozen? ⟨b, o, none⟩ = w.frozen? ⟨b, o, none⟩ := x.property.frozen (p := ⟨b, o, none⟩) h
theorem Later.size {w : World} (x : Later w) : w.heap.size ≤ x.val.heap.size := x.property.size

attribute [go_sem] Later.cell Later.frozen
section
variable {P : Program}
/-- A contract met inside a region that draws its order. -/
theorem calm {f : FuncId} {args : Array Value} {w : World} {x : Later w} {v : Value} (h : Calls P f args x.val (Ret x.val v)) :
    Calls P f args x.val fun e w'' => e = .returned v ∧ ∃ y : Later w, w'' = y.val :=
  h.mono fun _ w'' ⟨he, hb⟩ => ⟨he, ⟨w'', bthen x.property hb x.property.size⟩, rfl⟩

/-- A region that draws its order, whose own operations only read and whose callees leave alone what was there. -/
theorem wp_region_calm {id : Nat} {Q : Exit → Act → World → Prop} {a : Act} {w : World} {l : List Oper} (hm : P.follows .mixedOrders = true) (hB : Region.lexB .any l.toArray = true)
    (h : wpQuiet P l.toArray (fun w' => ∃ x : Later w, w' = x.val) (fun a' => ∀ w', Below w.heap.size w w' → Q .normal a' w') l a) : (Code.region id l.toArray true).wp P Q a w := by
  have hmono : ∀ (Q1 Q2 : Act → Prop), (∀ a, Q1 a → Q2 a) → ∀ (l : List Oper) (a : Act), wpQuiet P l.toArray (fun w' => ∃ x : Later w, w' = x.val) Q1 l a → wpQuiet P l.toArray (fun w' => ∃ x : Later w, w' = x.val) Q2 l a := by
    intro Q1 Q2 hQ l
    have : ∀ (ops : Array Oper) (l : List Oper) (a : Act), wpQuiet P ops (fun w' => ∃ x : Later w, w' = x.val) Q1 l a → wpQuiet P ops (fun w' => ∃ x : Later w, w' = x.val) Q2 l a := by
      intro ops l
      induction l with
      | nil => intro a h; exact hQ _ h
      | cons o rest ih =>
        intro a h
        unfold wpQuiet at h ⊢
        split
        · rename_i hw; rw [if_pos hw] at h; exact Oper.quiet_mono ih h
        · rename_i hw; rw [if_neg hw] at h; exact ih _ h
    exact this _ l
  refine wp_region_quiet (C := fun w' => ∃ x : Later w, w' = x.val) hm hB ⟨⟨w.drew, (Below.refl _ _).drew⟩, rfl⟩ ?_
  refine hmono _ _ ?_ l a h
  intro a' hh w' hw'
  obtain ⟨x, rfl⟩ := hw'
  exact hh _ x.property
end

/-! ### Bounds -/

/-- low ≤ n ≤ high, as a Bool that the walk does not open. -/
def inB (n low high : Int) : Bool := decide (low ≤ n) && decide (n ≤ high)
theorem inB_iff {n a b : Int} : inB n a b = true ↔ a ≤ n ∧ n ≤ b := by simp [inB]
theorem inB_not {n a b : Int} : inB n a b = false ↔ ¬ (a ≤ n ∧ n ≤ b) := by
  rw [← inB_iff]; simp

theorem within_any (n a b : Int) (r : Bool) (hr : inB n a b = r) (w : World) : Calls Tryz.prog 34 #[.int .i64 n, .int .i64 a, .int .i64 b] w (Ret w (.bool r)) := by
  subst hr
  by_cases h1 : a ≤ n
  · by_cases h2 : n ≤ b
    · have : inB n a b = true := by simp [inB, h1, h2]
      rw [this]; clear this
      go_enter Tryz.func34, Tryz.ntmps34
      go_wp2
      go_ret
      exact Ret.refl _ _
    · have : inB n a b = false := by simp [inB, h2]
      rw [this]; clear this
      go_enter Tryz.func34, Tryz.ntmps34
      go_wp2
      go_ret
      exact Ret.refl _ _
  · have : inB n a b = false := by simp [inB, h1]
    rw [this]; clear this
    go_enter Tryz.func34, Tryz.ntmps34
    go_wp2
    go_ret
    exact Ret.refl _ _
theorem l00In_any (n a b : Int) (r : Bool) (hr : inB n a b = r) (w : World) : Calls Tryz.prog 36 #[.int .i64 n, .int .i64 a, .int .i64 b] w (Ret w (.bool r)) := by
  subst hr
  by_cases h1 : a ≤ n
  · by_cases h2 : n ≤ b
    · have : inB n a b = true := by simp [inB, h1, h2]
      rw [this]; clear this
      go_enter Tryz.func36, Tryz.ntmps36
      go_wp2
      go_ret
      exact Ret.refl _ _
    · have : inB n a b = false := by simp [inB, h2]
      rw [this]; clear this
      go_enter Tryz.func36, Tryz.ntmps36
      go_wp2
      go_ret
      exact Ret.refl _ _
  · have : inB n a b = false := by simp [inB, h1]
    rw [this]; clear this
    go_enter Tryz.func36, Tryz.ntmps36
    go_wp2
    go_ret
    exact Ret.refl _ _
theorem abs_any (n : Int) (h1 : -9000000000000000000 ≤ n) (h2 : n ≤ 9000000000000000000) (w : World) : Calls Tryz.prog 64 #[.int .i64 n] w (Ret w (.int .i64 n.natAbs)) := by
  by_cases h : n < 0
  · have e : (n.natAbs : Int) = -n := by omega
    rw [e]; clear e
    go_enter Tryz.func64, Tryz.ntmps64
    go_wp2
    go_ret
    exact Ret.refl _ _
  · have e : (n.natAbs : Int) = n := by omega
    rw [e]; clear e
    go_enter Tryz.func64, Tryz.ntmps64
    go_wp2
    go_ret
    exact Ret.refl _ _
/-! ### The greatest common divisor -/

def GcdR (G : Nat) (w : World) (k : Nat) (x y : Value) (wr : World) : Prop :=
  ∃ p q : Nat, p ≤ 9000000000000000000 ∧ q ≤ 9000000000000000000 ∧ q ≤ k ∧ Nat.gcd p q = G ∧ x = .int .i64 p ∧ y = .int .i64 q ∧ Below w.heap.size w wr

set_option maxHeartbeats 400000 in
theorem gcd_any (a b : Int) (ha : -9000000000000000000 ≤ a) (ha' : a ≤ 9000000000000000000) (hb : -9000000000000000000 ≤ b) (hb' : b ≤ 9000000000000000000) (w : World) :
    Calls Tryz.prog 52 #[.int .i64 a, .int .i64 b] w (Ret w (.int .i64 (Int.gcd a b : Nat))) := by
  go_enter Tryz.func52, Tryz.ntmps52
  go_wp2_with fail
  refine (abs_any a ha ha' _).mono ?_
  rintro _ w1 ⟨rfl, hb1⟩
  go_wp2_with fail
  refine (abs_any b hb hb' _).mono ?_
  rintro _ w2 ⟨rfl, hb2⟩
  go_wp2_with fail
  go_loopg [0, 1] (b.natAbs) (GcdR (Int.gcd a b) w)
  case atStart => exact ⟨a.natAbs, b.natAbs, by omega, by omega, Nat.le_refl _, rfl, rfl, rfl, bthen hb1 hb2 hb1.size⟩
  case round =>
    obtain ⟨p, q, hp, hq, hqk, hg, rfl, rfl, hbw⟩ := hrel
    have HG := Lib.hid hg
    clear hg
    by_cases hq0 : q = 0
    · subst hq0
      go_wp2
      go_ret
      refine ⟨?_, hbw⟩
      rw [← HG.out]; simp
    · have hq1 : (1 : Int) ≤ (q : Int) := by omega
      go_wp2_with fail
      refine wp_region_calm (by kernel_rfl) (by kernel_rfl) ?_
      repeat (go_big_quiet_step (fail))
      refine wpQuiet_nil ?_
      intro w3 hb3
      go_wp2_with fail
      go_roundg (p % q)
      case measure => have := Nat.mod_lt p (Nat.pos_of_ne_zero hq0); omega
      case rel => exact ⟨q, p % q, hq, by have := Nat.mod_lt p (Nat.pos_of_ne_zero hq0); omega, Nat.le_refl _, by rw [← HG.out, Nat.gcd_comm p q, Nat.gcd_rec q p, Nat.gcd_comm], rfl, by first | rfl | simp, bthen hbw hb3 hbw.size⟩
/-! ### Division, rounded down -/
theorem tdiv_floor {a b : Int} (hb : 1 ≤ b) : a / b = a.tdiv b + (if a.tmod b < 0 then -1 else 0) := by
  rw [Int.tdiv_eq_ediv, Int.tmod_eq_emod]
  have h0 := Int.emod_nonneg a (show b ≠ 0 by omega)
  have h1 := Int.emod_lt_of_pos a (show 0 < b by omega)
  have hs : b.sign = 1 := Int.sign_eq_one_of_pos (by omega)
  split
  · simp; omega
  · rw [hs, if_pos (by omega)]; omega
theorem tmod_sign {a b : Int} (hb : 1 ≤ b) (ha : 0 ≤ a) : 0 ≤ a.tmod b := by
  rw [Int.tmod_eq_emod, if_pos (Or.inl ha)]
  have h0 := Int.emod_nonneg a (show b ≠ 0 by omega)
  omega
theorem tmod_sign' {a b : Int} (hb : 1 ≤ b) (ha : a < 0) : a.tmod b ≤ 0 := by
  rw [Int.tmod_eq_emod]
  have h0 := Int.emod_nonneg a (show b ≠ 0 by omega)
  have h1 := Int.emod_lt_of_pos a (show 0 < b by omega)
  split
  · rename_i h
    rcases h with h | h
    · omega
    · rw [Int.emod_eq_zero_of_dvd h]; omega
  · omega
theorem div_between {a b : Int} (h1 : -9000000000000000000 ≤ a) (h2 : a ≤ 9000000000000000000) : -9000000000000000000 ≤ a.tdiv b ∧ a.tdiv b ≤ 9000000000000000000 := by
  have e := Int.natAbs_tdiv_le_natAbs a b
  omega
set_option maxHeartbeats 400000 in
theorem floorDiv_any (a b : Int) (ha : -9000000000000000000 ≤ a) (ha' : a ≤ 9000000000000000000) (hb : 1 ≤ b) (hb' : b ≤ 9000000000000000000) (w : World) :
    Calls Tryz.prog 63 #[.int .i64 a, .int .i64 b] w (Ret w (.int .i64 (a / b))) := by
  have hbn : ¬ b < 0 := by omega
  have hf := tdiv_floor (a := a) hb
  obtain ⟨d1, d2⟩ := div_between (b := b) ha ha'
  by_cases h0 : 0 ≤ a
  · have han : ¬ a < 0 := by omega
    have hs := tmod_sign hb h0
    rw [if_neg (by omega)] at hf
    rw [hf, Int.add_zero]
    clear hf hs
    go_enter Tryz.func63, Tryz.ntmps63
    go_wp2
    all_goals (go_ret; exact Ret.refl _ _)
  · have han : a < 0 := by omega
    have hs := tmod_sign' hb han
    by_cases hm : a.tmod b = 0
    · have hmb : (a.tmod b != 0) = false := by simp [hm]
      rw [if_neg (by omega)] at hf
      rw [hf, Int.add_zero]
      clear hm hf hs
      go_enter Tryz.func63, Tryz.ntmps63
      go_wp2
      go_ret; exact Ret.refl _ _
    · have hmb : (a.tmod b != 0) = true := by simp [hm]
      rw [if_pos (by omega)] at hf
      rw [hf, show a.tdiv b + -1 = a.tdiv b - 1 from rfl]
      clear hm hf hs
      go_enter Tryz.func63, Tryz.ntmps63
      go_wp2
      go_ret; exact Ret.refl _ _
end Go.Proofs.YtlmmpeeacjbobaaGreatDoor
