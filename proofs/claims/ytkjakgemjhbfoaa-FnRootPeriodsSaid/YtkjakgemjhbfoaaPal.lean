/-
  The period of a root is a palindrome but for its last term.
-/
import Derived.Test.YtkjakgemjhbfoaaUnq
namespace Go.Proofs.Ytkjakgemjhbfoaa
open Go.RowKit

def rvX (d : Int) (k : Nat) : Int × Int := ((orb d (0, 1) (k + 1)).1, (orb d (0, 1) k).2)
theorem rv_facts {d a0 : Int} (R : RootD d a0) (k : Nat) : RedX d a0 (rvX d (k + 1)) ∧ nxt d (rvX d (k + 1)) = rvX d k ∧ tmX d (rvX d (k + 1)) = trX d (k + 1) := by
  have hr := orb_red R k
  obtain ⟨⟨⟨u1, u2⟩, _, _⟩, h2, h3, h4, h5, h6⟩ := red_step R hr
  obtain ⟨s1, s2, s3⟩ := orb_step R k
  have e0 : nxt d (orb d (0, 1) (k + 1)) = orb d (0, 1) (k + 1 + 1) := rfl
  have et : tmX d (orb d (0, 1) (k + 1)) = trX d (k + 1) := rfl
  rw [e0] at u1 u2 h4 h5 h6
  rw [et] at h2 h3 h6
  obtain ⟨⟨g1, g2⟩, ⟨g3, g4, g5⟩, g6⟩ := hr
  have em := Int.emod_lt_of_pos ((orb d (0, 1) (k + 1)).1 + a0) (show 0 < (orb d (0, 1) (k + 1)).2 by omega)
  have eQ := Int.mul_le_mul_of_nonneg_right h2 (show 0 ≤ (orb d (0, 1) (k + 1)).2 by omega)
  have hfl : trX d (k + 1) = ((orb d (0, 1) (k + 1 + 1)).1 + a0) / (orb d (0, 1) (k + 1)).2 := by
    have e : (orb d (0, 1) (k + 1 + 1)).1 + a0 = (a0 - (orb d (0, 1) (k + 1)).1) + trX d (k + 1) * (orb d (0, 1) (k + 1)).2 := by omega
    rw [e, Int.add_mul_ediv_right _ _ (by omega), Int.ediv_eq_zero_of_lt (by omega) (by omega)]
    omega
  have hn := nxt_eq (p := (orb d (0, 1) (k + 1 + 1)).1) (q := (orb d (0, 1) (k + 1)).2) (a := trX d (k + 1)) (p' := (orb d (0, 1) (k + 1)).1) (q' := (orb d (0, 1) k).2) R g3 hfl (by omega) (by rw [Int.mul_comm]; exact s3)
  refine ⟨⟨⟨u1, u2⟩, ⟨g3, ?_, ?_⟩, ?_⟩, hn.1, hn.2⟩
  · show (orb d (0, 1) (k + 1)).2 ≤ a0 + (orb d (0, 1) (k + 1 + 1)).1
    omega
  · show a0 < (orb d (0, 1) (k + 1 + 1)).1 + (orb d (0, 1) (k + 1)).2
    omega
  · show (orb d (0, 1) (k + 1)).2 ∣ d - (orb d (0, 1) (k + 1 + 1)).1 * (orb d (0, 1) (k + 1 + 1)).1
    exact ⟨_, h4.symm⟩
theorem rv_orb {d a0 : Int} (R : RootD d a0) {l : Nat} (hl : orb d (0, 1) l = (a0, 1)) : ∀ k m, l = k + (m + 1) → rvX d k = orb d (0, 1) (m + 1)
  | 0, m, h => by
    have e : m + 1 = l := by omega
    rw [e, hl]
    show ((nxt d (0, 1)).1, (1 : Int)) = _
    rw [(root_zero R).1]
  | k + 1, m, h => by
    obtain ⟨f1, f2, _⟩ := rv_facts R k
    have ih := rv_orb R hl k (m + 1) (by omega)
    exact red_inj R f1 (orb_red R m) (f2.trans ih)
theorem tr_pal {d a0 : Int} (R : RootD d a0) {l : Nat} (hl : orb d (0, 1) l = (a0, 1)) {i j : Nat} (h : i + 1 + (j + 1) = l) : trX d (i + 1) = trX d (j + 1) := by
  have h1 := rv_orb R hl (i + 1) j (by omega)
  obtain ⟨_, _, h3⟩ := rv_facts R i
  rw [← h3, h1]
  rfl
end Go.Proofs.Ytkjakgemjhbfoaa
