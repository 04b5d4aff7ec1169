/-
  The terms of a positive fraction and the path to it: both packages' loops.
-/
import Derived.Test.YtlmmpeeacjbobaaGreatDoorEx
import Derived.Test.YtlmmpeeacjbobaaGreatDoorApp
import Derived.Test.YtlmmpeeacjbobaaGreatDoorFrac
namespace Go.Proofs.YtlmmpeeacjbobaaGreatDoor
open Go.RowKit

theorem rs_lit1' (w : World) (x : Int) : Rs (w.alloc (.cells #[.int .i64 x] 2)) 1 (.slice (some ⟨w.heap.size, 0, none⟩) 1 1) 1 (ints [x]) :=
  Rs.of_own (World.ownsRow_lit (base := 0) w #[.int .i64 x] 1 (Nat.zero_le _) (by simp [maxLen]) (by simp))
theorem own_lit01 (w : World) (o : Obj) (e : TypeId) : ((w.alloc o).alloc (.cells #[] e)).ownsRow w.heap.size e 1 (.slice (some ⟨w.heap.size + 1, 0, none⟩) 0 0) 0 [] := by
  have h := own_lit00 (w.alloc o) e 1
  rw [World.size_alloc] at h
  exact own_base h (by omega)
theorem own_lit_set (w : World) (p : Addr) (u : Value) (e : TypeId) : ((w.setCell p u).alloc (.cells #[] e)).ownsRow w.heap.size e 1 (.slice (some ⟨w.heap.size, 0, none⟩) 0 0) 0 [] := by
  have h := own_lit00 (w.setCell p u) e 1
  rw [World.size_setCell] at h
  exact h
/-- The front of an own row. -/
theorem own_front {w : World} {base : Nat} {e : TypeId} {g n m cap : Nat} {xs : List Value} (h : w.ownsRow base e 1 (.slice (some ⟨g, 0, none⟩) n cap) n xs) (hm : m ≤ n) : w.ownsRow base e 1 (.slice (some ⟨g, 0, none⟩) m cap) m (xs.take m) := by
  rcases h.2 with ⟨h', _⟩ | ⟨g', cap', cur, h', hb, hg, hnc, hcm, hcs, htake⟩
  · simp at h'
  · simp only [Value.slice.injEq, Option.some.injEq, Addr.mk.injEq, and_true, true_and] at h'
    obtain ⟨rfl, rfl⟩ := h'
    have hl := h.1
    refine ⟨by rw [List.length_take]; omega, .inr ⟨g, cap, cur, rfl, hb, hg, by omega, hcm, hcs, ?_⟩⟩
    rw [← htake, List.take_take, Nat.min_eq_left (by omega), Nat.mul_one]
/-- An own row that is not empty lies in a block. -/
theorem own_block {w : World} {base : Nat} {e : TypeId} {n : Nat} {v : Value} {xs : List Value} (h : w.ownsRow base e 1 v n xs) (hn : 1 ≤ n) : ∃ g cap, v = .slice (some ⟨g, 0, none⟩) n cap ∧ base ≤ g ∧ g < w.heap.size ∧ n ≤ cap ∧ cap ≤ maxLen := by
  rcases h.2 with ⟨h', h0⟩ | ⟨g, cap, cur, h', hb, hg, hnc, hcm, hcs, htake⟩
  · omega
  · exact ⟨g, cap, h', hb, (Array.getElem?_eq_some_iff.1 hg).1, hnc, hcm⟩
theorem emod_eq {a b : Int} : a - a / b * b = a % b := by
  have := Int.emod_add_mul_ediv a b
  rw [Int.mul_comm] at this
  omega
def ExR (w : World) (L : List Int) (k : Nat) (v n d : Value) (wr : World) : Prop :=
  ∃ (xs : List Int) (a b : Int), n = .int .i64 a ∧ d = .int .i64 b ∧ (-1000000000 ≤ a ∧ a ≤ 1000000000) ∧ (0 ≤ b ∧ b ≤ 1000000000) ∧ exEnd k a b ∧ xs ++ exF k a b = L ∧ xs.length + k ≤ 60 ∧ wr.ownsRow w.heap.size 2 1 v xs.length (ints xs) ∧ Below w.heap.size w wr
/-- A round's arithmetic. -/
theorem ex_round {a b : Int} (a1 : -1000000000 ≤ a) (a2 : a ≤ 1000000000) (b1 : 1 ≤ b) (b2 : b ≤ 1000000000) : (-1000000000 ≤ a / b ∧ a / b ≤ 1000000000) ∧ (-1000000000000000000 ≤ a / b * b ∧ a / b * b ≤ 1000000000000000000) ∧ a - a / b * b = a % b ∧ 0 ≤ a % b ∧ a % b < b := by
  have r0 := Int.emod_nonneg a (show b ≠ 0 by omega)
  have r1 := Int.emod_lt_of_pos a (show 0 < b by omega)
  have e := emod_eq (a := a) (b := b)
  have q1 : -1000000000 ≤ a / b := (Int.le_ediv_iff_mul_le (by omega)).2 (by omega)
  have q2 : a / b ≤ 1000000000 := by
    have : a / b < 1000000001 := Int.ediv_lt_of_lt_mul (by omega) (by omega)
    omega
  exact ⟨⟨q1, q2⟩, ⟨by omega, by omega⟩, e, r0, r1⟩
set_option maxHeartbeats 1000000 in
set_option maxRecDepth 100000 in
theorem expand_any (n d : Int) (n1 : -1000000000 ≤ n) (n2 : n ≤ 1000000000) (d1 : 0 ≤ d) (d2 : d ≤ 1000000000) (w : World) : Calls Tryz.prog 51 #[.int .i64 n, .int .i64 d] w (RetRow w 2 1 (exF 60 n d).length (ints (exF 60 n d))) := by
  have hE := exEnd_all n d d1 d2
  generalize hL : exF 60 n d = L
  have HL := Lib.hid hL
  have HE := Lib.hid hE
  clear hL hE
  go_enter Tryz.func51, Tryz.ntmps51
  go_wp2_with fail
  go_loopg [5, 0, 1] 60 (fun k v n d wr => ExR w L k v n d wr)
  case atStart => exact ⟨[], n, d, rfl, rfl, ⟨n1, n2⟩, ⟨d1, d2⟩, HE.out, HL.out, by simp, World.ownsRow_nil _ _ _ _, Below.refl _ _⟩
  case round =>
    obtain ⟨xs, a, b, rfl, rfl, ⟨a1, a2⟩, ⟨b1, b2⟩, hEn, hLn, hlen, hown, hbw⟩ := hrel
    have hs := hbw.size
    by_cases hb : b = 0
    · subst hb
      obtain rfl : xs = L := by rw [exF_zero, List.append_nil] at hLn; exact hLn
      clear hEn hLn HL HE
      go_wp2
      go_ret
      exact ⟨_, rfl, hown, hbw⟩
    · have hb' : (b != 0) = true := by simp [hb]
      obtain ⟨⟨r1, r2⟩, ⟨r3, r4⟩, r5, r6, r7⟩ := ex_round a1 a2 (show 1 ≤ b by omega) b2
      have hbb : 1 ≤ b := by omega
      cases gk with
      | zero => exact absurd hEn hb
      | succ gk =>
      have hE2 : exEnd gk b (a % b) := by
        rcases hEn with h | h
        · exact absurd h hb
        · exact h
      have hL2 : (xs ++ [a / b]) ++ exF gk b (a % b) = L := by rw [← hLn, exF_step hb, List.append_assoc]; rfl
      have HE2 := Lib.hid hE2
      have HL2 := Lib.hid hL2
      have R5 := Lib.hid r5
      clear hEn hLn hE2 hL2 HL HE r5
      have kF := fun w => floorDiv_any a b (by omega) (by omega) hbb (by omega) w
      generalize a / b = q at *
      go_wp2_with fail
      apply Calls.mono
      · with_reducible exact kF _
      rintro _ w2 ⟨rfl, hb_w2⟩
      have hs2 := hb_w2.size
      have bel2 : Below w.heap.size w w2 := bthen hbw hb_w2 hs
      have hown2 := own_below hown hb_w2 (Nat.le_refl _)
      have hS := rs_lit1' w2 q
      have hsA : w.heap.size ≤ (w2.alloc (.cells #[.int .i64 q] 2)).heap.size := by rw [World.size_alloc]; omega
      go_wp2_with (at_builtin; refine wp_appI rfl (.tmp 12) (.tmp 14) rfl w.heap.size _ _ xs.length 1 xs [q] rfl (hown2.alloc _) rfl hS (by omega) hsA ?_; intro v3 w3 hown3 hgr3 hat3)
      have bel3 : Below w.heap.size w w3 := (bel2.alloc bel2.size _).grown hgr3 hsA (fun k hk => (hown2.lt k hk).1)
      go_roundg gk
      case measure => omega
      case rel =>
        refine ⟨xs ++ [q], b, a % b, rfl, ?_, ⟨by omega, by omega⟩, ⟨r6, by omega⟩, HE2.out, HL2.out, by simp; omega, by simpa using hown3, bel3⟩
        rw [← R5.out]
set_option maxHeartbeats 1000000 in
set_option maxRecDepth 100000 in
theorem pathTo_any (n d : Int) (n1 : 1 ≤ n) (n2 : n ≤ 1000000000) (d1 : 1 ≤ d) (d2 : d ≤ 1000000000) (i : List Int) (l : Int) (hL : exF 60 n d = i ++ [l]) (E : ExL i l) (w : World) :
    Calls Tryz.prog 38 #[.agg #[.int .i64 n, .int .i64 d]] w (RetRow w 2 1 (pthL i l).length (ints (pthL i l))) := by
  have kE := fun w => expand_any n d (by omega) n2 (by omega) d2 w
  rw [hL, List.length_append, List.length_singleton] at kE
  obtain ⟨e1, e2, e3, e4, e5, e6⟩ := E
  have HL := Lib.hid hL
  have l1 : 1 ≤ l := by
    by_cases h : i = []
    · exact e3 h
    · have := e4 h; omega
  clear hL e1 e2 e3
  go_enter Tryz.func38, Tryz.ntmps38
  go_wp2_with fail
  apply Calls.mono
  · with_reducible exact kE _
  rintro _ w1 ⟨v, rfl, hown, hb_w1⟩
  obtain ⟨g, cap, rfl, hg1, hg2, hnc, hcm⟩ := own_block hown (by omega)
  rw [World.size_alloc] at hown hg1
  have c1 : w1.cell? ⟨g, i.length, none⟩ = some (.int .i64 l) := (hown.cellAt i.length (by omega)).trans (by simp [ints])
  have f1 : w1.frozen? ⟨g, i.length, none⟩ = false := hown.frozenAt i.length
  have hi : ((i.length + 1 : Nat) : Int) - 1 = (i.length : Int) := by omega
  have hi2 : (i.length : Int) < ((i.length + 1 : Nat) : Int) := by omega
  obtain ⟨hst, hgr⟩ := hown.stored i.length (.int .i64 (l - 1))
  rw [show (ints (i ++ [l])).set i.length (.int .i64 (l - 1)) = ints (i ++ [l - 1]) by simp [ints]] at hst
  have belA : Below w.heap.size w w1 := bthen ((Below.refl _ _).alloc (Nat.le_refl _) _) hb_w1 (by rw [World.size_alloc]; omega)
  have belB : Below w.heap.size w (w1.setCell ⟨g, i.length, none⟩ (.int .i64 (l - 1))) := belA.setCell (p := ⟨g, i.length, none⟩) (show w.heap.size ≤ g by omega) _
  by_cases hl : l = 1
  · subst hl
    obtain rfl : i = [] := by
      by_cases h : i = []
      · exact h
      · have := e4 h; omega
    have e : pthL [] 1 = [] := rfl
    rw [e]
    have hfr := own_front hst (m := 0) (by omega)
    simp only [List.length_nil, Nat.zero_add] at *
    go_wp2
    go_ret
    exact ⟨_, rfl, own_base hfr (Nat.le_succ _), belB⟩
  · have e : pthL i l = i ++ [l - 1] := by unfold pthL; rw [if_neg hl]
    have hl' : ¬ (l - 1 = 0) := by omega
    go_wp2
    go_ret
    refine ⟨_, rfl, ?_, belB⟩
    rw [e, List.length_append, List.length_singleton]
    exact own_base hst (Nat.le_succ _)
end Go.Proofs.YtlmmpeeacjbobaaGreatDoor
