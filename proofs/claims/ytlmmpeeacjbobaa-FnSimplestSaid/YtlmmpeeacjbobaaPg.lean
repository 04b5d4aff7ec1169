/-
  Paths without their last step; codes of positive fractions.
-/
import Derived.Test.YtlmmpeeacjbobaaPf
namespace Go.Proofs.Ytlmmpeeacjbobaa
open Go.RowKit

theorem ints_take (xs : List Int) (m : Nat) : ints (xs.take m) = (ints xs).take m := by simp [ints, List.map_take]
theorem rs_take {w : World} {A : Option Addr} {n m c : Nat} {xs : List Int} (h : Rs w 1 (.slice A n c) n (ints xs)) (hm : m ≤ n) : Rs w 1 (.slice A m c) m (ints (xs.take m)) := by
  obtain ⟨⟨A', c', hv, hn, hc, hl, hr⟩, h2⟩ := h
  injection hv with hA _ hcc
  subst hA hcc
  refine ⟨⟨A, c, rfl, by omega, hc, ?_, ?_⟩, ?_⟩
  · rw [ints_len] at hl ⊢
    rw [List.length_take]; omega
  · rcases hr with h0 | ⟨g, o, hA, hg, hcell⟩
    · exact .inl (by omega)
    · refine .inr ⟨g, o, hA, hg, fun j u hu => hcell j u ?_⟩
      rw [ints_take, List.getElem?_take] at hu
      split at hu
      · exact hu
      · cases hu
  · intro k c2 e
    injection e with e1 e2 e3
    subst e1
    rw [← e3]
    exact h2 n c rfl
/-- How many terms are left without the zeros at the end. -/
def trN (xs : List Int) : Nat → Nat
  | 0 => 0
  | k + 1 => if xs.getD k 0 = 0 then trN xs k else k + 1
theorem trN_le (xs : List Int) : ∀ k, trN xs k ≤ k
  | 0 => Nat.le_refl _
  | k + 1 => by
    unfold trN
    split
    · have := trN_le xs k; omega
    · omega
def trL (xs : List Int) : List Int := xs.take (trN xs xs.length)
theorem trL_len (xs : List Int) : (trL xs).length = trN xs xs.length := by
  unfold trL
  rw [List.length_take]
  have := trN_le xs xs.length
  omega
def TmR (w : World) (A : Option Addr) (c n : Nat) (xs : List Int) (k : Nat) (v : Value) (wr : World) : Prop :=
  ∃ m : Nat, v = .slice A m c ∧ m ≤ n ∧ m ≤ k ∧ trN xs m = trN xs n ∧ Below w.heap.size w wr
set_option maxHeartbeats 1000000 in
set_option maxRecDepth 100000 in
theorem trimmed_any (v : Value) (n : Nat) (xs : List Int) (w : World) (hv : Rs w 1 v n (ints xs)) :
    Calls Try.prog 65 #[v] w (fun e w' => ∃ v', e = .returned v' ∧ Rs w' 1 v' (trL xs).length (ints (trL xs)) ∧ Below w.heap.size w w') := by
  have hl : xs.length = n := by have := (rd_len hv.1).1; rw [ints_len] at this; omega
  obtain ⟨A, c, rfl, hn, hc, -, hr⟩ := id hv.1
  simp only [maxLen] at hc
  have HV := Lib.hid hv
  have R1 := Lib.hid hr
  have HL := Lib.hid hl
  clear hv hr hl
  go_enter Try.func65, Try.ntmps65
  go_wp2_with fail
  go_loopg [0] n (fun k v wr => TmR w A c n xs k v wr)
  case atStart => exact ⟨n, rfl, Nat.le_refl _, Nat.le_refl _, rfl, Below.refl _ _⟩
  case round =>
    obtain ⟨m, rfl, hm1, hm2, hm3, hbw⟩ := hrel
    have fin : trN xs m = m → ∃ v', Ending.returned (.slice A m c) = .returned v' ∧ Rs wr 1 v' (trL xs).length (ints (trL xs)) ∧ Below w.heap.size w wr := fun h => by
      refine ⟨_, rfl, ?_, hbw⟩
      rw [trL_len, HL.out, ← hm3, h]
      have h2 : trL xs = xs.take m := by unfold trL; rw [HL.out, ← hm3, h]
      rw [h2]
      exact (rs_take HV.out hm1).below hbw (Nat.le_refl _)
    cases m with
    | zero =>
      have hf := fin rfl
      clear fin hm3
      go_wp2
      go_ret
      exact hf
    | succ m =>
      obtain ⟨z, hz⟩ := get_ex (l := xs) (k := m) (by have := HL.out; omega)
      have hgd : xs.getD m 0 = z := by rw [List.getD_eq_getElem?_getD, hz]; rfl
      rcases R1.out with h0 | ⟨g, o, rfl, hg, hcell⟩
      · omega
      have c1 : wr.cell? ⟨g, o + m, none⟩ = some (.int .i64 z) := (hbw.cell (p := ⟨g, o + m, none⟩) hg).trans (hcell m _ (ints_get hz))
      have hgw : g < wr.heap.size := Nat.lt_of_lt_of_le hg hbw.size
      have htr : trN xs (m + 1) = if z = 0 then trN xs m else m + 1 := by rw [← hgd]; rfl
      have e1 : (0 : Int) < ((m + 1 : Nat) : Int) := by omega
      have e2 : ((m + 1 : Nat) : Int) - 1 = (m : Int) := by omega
      have e3 : (m : Int) < ((m + 1 : Nat) : Int) := by omega
      clear hcell R1 hz hgd
      by_cases hz0 : z = 0
      · subst hz0
        rw [if_pos rfl] at htr
        clear fin
        have HTR := Lib.hid (htr.symm.trans hm3)
        clear htr hm3
        go_wp2
        go_roundg m
        case measure => omega
        case rel => exact ⟨m, by go_num, by omega, Nat.le_refl _, HTR.out, hbw⟩
      · rw [if_neg hz0] at htr
        have hf := fin htr
        clear fin htr hm3
        go_wp2
        go_ret
        exact hf
set_option maxHeartbeats 1000000 in
set_option maxRecDepth 100000 in
theorem l05Short_any (v : Value) (i : List Int) (l : Int) (w : World) (E : ExL i l) (h1 : l ≠ 1) (hv : Rs w 1 v (i.length + 1) (ints (i ++ [l - 1]))) :
    Calls Try.prog 61 #[v] w (fun e w' => ∃ v', e = .returned v' ∧ Rs w' 1 v' (shtL i l).length (ints (shtL i l)) ∧ Below w.heap.size w w') := by
  obtain ⟨e1, e2, e3, e4, e5, e6⟩ := E
  have l1 : 2 ≤ l := by
    by_cases h : i = []
    · have := e3 h; omega
    · exact e4 h
  obtain ⟨A, c, rfl, -⟩ := id hv.1
  have kO := own_any _ (i.length + 1) (i ++ [l - 1]) _ hv (by omega)
  have hi : ((i.length + 1 : Nat) : Int) - 1 = (i.length : Int) := by omega
  have E1 := Lib.hid e1
  clear hv e1 e2 e3 e4
  go_enter Try.func61, Try.ntmps61
  go_wp2_with fail
  apply Calls.mono
  · with_reducible exact kO
  rintro _ w1 ⟨v1, rfl, hown1, hb_w1⟩
  obtain ⟨g, cap, rfl, ⟨hg1, hg2, hg3⟩, c1, f1, hown2⟩ := own_last i (l - 1) rfl rfl hown1
  have hst := own_changed (l - 1 - 1) hown2
  have bel2 := hb_w1.setCell (p := ⟨g, i.length, none⟩) (show w.heap.size ≤ g by omega) (.int .i64 (l - 1 - 1))
  have z1 := hb_w1.size
  clear hown1 hown2 kO hb_w1
  by_cases hl : 2 < l
  · have e : shtL i l = i ++ [l - 1 - 1] := by unfold shtL; rw [if_pos hl, show l - 1 - 1 = l - 2 by omega]
    have hpos : 0 < l - 1 - 1 := by omega
    go_wp2
    go_ret
    refine ⟨_, rfl, ?_, bel2⟩
    rw [e, List.length_append, List.length_singleton]
    exact Rs.of_own hst
  · obtain rfl : l = 2 := by omega
    have hfr := own_front hst (m := i.length) (by omega)
    rw [← ints_take, List.take_append_of_le_length (Nat.le_refl _), List.take_of_length_le (Nat.le_refl _)] at hfr
    have e : shtL i 2 = if i = [0] then [] else i := by unfold shtL; rw [if_neg (by omega)]
    by_cases hi1 : i.length = 1
    · obtain ⟨x, rfl⟩ := List.length_eq_one_iff.1 hi1
      simp only [List.length_singleton] at *
      have c0 : w1.cell? ⟨g, 0, none⟩ = some (.int .i64 x) := by
        have h3 := hfr.cellAt 0 (by omega)
        have h2 : (w1.setCell ⟨g, 1, none⟩ (.int .i64 (2 - 1 - 1))).cell? ⟨g, 0, none⟩ = w1.cell? ⟨g, 0, none⟩ := World.cell?_setCell_other _ _ _ _ (fun e => by injection e with _ e2; omega)
        exact h2.symm.trans (h3.trans rfl)
      by_cases hx : x = 0
      · subst hx
        rw [if_pos rfl] at e
        go_wp2
        go_ret
        refine ⟨_, rfl, ?_, bel2.alloc bel2.size _⟩
        have hlit := own_lit_set w1 ⟨g, 1, none⟩ (.int .i64 (2 - 1 - 1)) 2
        exact Rs.of_own hlit
      · rw [if_neg (by simp [hx])] at e
        go_wp2
        go_ret
        refine ⟨_, rfl, ?_, bel2⟩
        exact Rs.of_own hfr
    · rw [if_neg (by intro h; rw [h] at hi1; exact hi1 rfl)] at e
      have hne : ¬ (((i.length + 1 : Nat) : Int) = 2) := by omega
      go_wp2
      go_ret
      refine ⟨_, rfl, ?_, bel2⟩
      rw [e]
      exact Rs.of_own hfr
end Go.Proofs.Ytlmmpeeacjbobaa
