/-
  The laws' greatest common divisor.
-/
import Derived.Test.YtibbokllongomaaDoorBase
namespace Go.Proofs.YtibbokllongomaaDoor
open Go.RowKit

def AgR (g : Nat) (w : World) (k : Nat) (va vb : Value) (wr : World) : Prop :=
  ∃ p q : Nat, p ≤ 1000000000 ∧ q ≤ 1000000000 ∧ q ≤ k ∧ Nat.gcd p q = g ∧ va = .int .i64 (p : Int) ∧ vb = .int .i64 (q : Int) ∧ Below w.heap.size w wr
set_option maxHeartbeats 1000000 in
theorem a2Gcd_any (a b : Int) (ha : -1000000 ≤ a) (ha' : a ≤ 1000000) (hb : -1000000 ≤ b) (hb' : b ≤ 1000000) (w : World) :
    Calls Tryd.prog 30 #[.int .i64 a, .int .i64 b] w (Ret w (.int .i64 (Nat.gcd a.natAbs b.natAbs : Nat))) := by
  go_enter Tryd.func30, Tryd.ntmps30
  go_wp2_with fail
  all_goals
    go_loopg [0, 1] b.natAbs (AgR (Nat.gcd a.natAbs b.natAbs) w)
    case atStart => exact ⟨a.natAbs, b.natAbs, by omega, by omega, Nat.le_refl _, rfl, by first | rfl | (congr 1; omega), by first | rfl | (congr 1; omega), by repeat' (first | (with_reducible exact Below.refl _ _) | (with_reducible assumption) | (with_reducible refine Below.alloc ?_ ?_ _) | (with_reducible refine Below.drew ?_) | (with_reducible refine bdrewN ?_ _) | (with_reducible refine Below.setCell ?_ ?_ _) | (with_reducible refine bthen ?_ (by assumption) ?_) | go_size)⟩
    case round =>
      obtain ⟨p, q, hp, hq, hqk, hg, rfl, rfl, hbw⟩ := hrel
      have HG := Lib.hid hg
      clear hg
      by_cases hq0 : q = 0
      · subst hq0
        go_wp2
        go_ret
        refine ⟨?_, hbw⟩
        rw [← HG.out]; simp
      · have hq1 : (1 : Int) ≤ (q : Int) := by omega
        go_wp2_with fail
        go_roundg (p % q)
        case measure => have := Nat.mod_lt p (Nat.pos_of_ne_zero hq0); omega
        case rel => exact ⟨q, p % q, hq, by have := Nat.mod_lt p (Nat.pos_of_ne_zero hq0); omega, Nat.le_refl _, by rw [← HG.out, Nat.gcd_comm p q, Nat.gcd_rec q p, Nat.gcd_comm], rfl, by first | rfl | simp, hbw⟩
end Go.Proofs.YtibbokllongomaaDoor
