/-
  Appends whose source is whatever slice; slices.Grow of nil; slices.Concat of two; the reference's copies.
-/
import Derived.Test.YtibbokllongomaaDoorInts
import Derived.Laws.AppendOwnNone
import Derived.Maps.AppendAt
import Derived.Lib.AppendZeros
namespace Go.Proofs.YtibbokllongomaaDoor
open Go.RowKit

theorem own_lit00 (w : World) (e : TypeId) (size : Nat) : (w.alloc (.cells #[] e)).ownsRow w.heap.size e size (.slice (some ⟨w.heap.size, 0, none⟩) 0 0) 0 [] :=
  World.ownsRow_lit w #[] 0 (Nat.le_refl _) (by simp [maxLen]) (by simp)
theorem addr_addN (g of j : Nat) : (⟨g, of, none⟩ : Addr).add j = ⟨g, of + j, none⟩ := by unfold Addr.add; split <;> simp_all
theorem Tryd.zeroI : ∃ i, Tryd.prog.info? 2 = some i ∧ i.zero = some (.int .i64 0) ∧ i.size = 1 ∧ i.bytes = 8 := info_parts Tryd.infoI
/-- A slice that reads; a nil one has no room. -/
def Rs (w : World) (size : Nat) (v : Value) (n : Nat) (xs : List Value) : Prop := Rd w size v n xs ∧ ∀ m c, v = .slice none m c → c = 0
theorem Rs.of_own {w : World} {base : Nat} {e : TypeId} {size n : Nat} {v : Value} {xs : List Value} (h : w.ownsRow base e size v n xs) : Rs w size v n xs := by
  refine ⟨Rd.of_own h, ?_⟩
  intro m c hv
  rcases h.2 with ⟨rfl, rfl⟩ | ⟨g, cap, cur, rfl, _⟩
  · injection hv with _ _ h3; exact h3.symm
  · injection hv with h1; cases h1
theorem Rs.below {w w' : World} {B size n : Nat} {v : Value} {xs : List Value} (h : Rs w size v n xs) (hb : Below B w w') (hB : w.heap.size ≤ B) : Rs w' size v n xs := ⟨h.1.below hb hB, h.2⟩
theorem Rs.alloc {w : World} {size n : Nat} {v : Value} {xs : List Value} (h : Rs w size v n xs) (o : Obj) : Rs (w.alloc o) size v n xs := ⟨h.1.alloc o, h.2⟩
theorem Rs.grown {w w' : World} {row : Option Nat} {size n : Nat} {v : Value} {xs : List Value} (h : Rs w size v n xs) (hg : w.grownBy w' row) (hr : row = none ∨ row ≠ v.ownBlock) : Rs w' size v n xs := by
  refine ⟨?_, h.2⟩
  obtain ⟨A, c, hv, hn, hc, hl, hr2⟩ := h.1
  refine ⟨A, c, hv, hn, hc, hl, ?_⟩
  rcases hr2 with h0 | ⟨g, of, hA, hgl, hcell⟩
  · exact .inl h0
  · refine .inr ⟨g, of, hA, Nat.lt_of_lt_of_le hgl hg.size, fun j u hu => ?_⟩
    rw [← hcell j u hu]
    refine World.cell?_of_block (hg.block g hgl ?_)
    rw [hv, hA] at hr
    rcases hr with e | e
    · rw [e]; simp
    · exact fun e2 => e e2.symm
/-- append(s, x...) of integers: s is the call's own, x is whatever slice that reads. -/
theorem wp_appI {w : World} {ops : Array Oper} {rest : List Oper} {o : Oper} {a : Act} {Q : Exit → Act → World → Prop} (hgd : o.guard = none) (s x : Operand)
    (ho : o.op = .call { callee := .builtin .append, args := #[s, x], argTypes := #[24, 24] })
    (base : Nat) (v vx : Value) (n m : Nat) (xs ys : List Int) (hs : a.eval s = v) (hown : w.ownsRow base 2 1 v n (ints xs))
    (hx : a.eval x = vx) (hS : Rs w 1 vx m (ints ys)) (hb : (n + m) * 8 ≤ 140737488355328) (hbase : base ≤ w.heap.size)
    (h : ∀ v' w', w'.ownsRow base 2 1 v' (n + m) (ints (xs ++ ys)) → w.grownBy w' v.ownBlock → (v'.ownBlock = v.ownBlock ∨ v'.ownBlock = some w.heap.size) → wpList Tryd.prog ops Q rest (a.put o.dst v') w') :
    wpList Tryd.prog ops Q (o :: rest) a w := by
  obtain ⟨i, hi, hz, hsz, hby⟩ := Tryd.zeroI
  obtain ⟨⟨A, c, rfl, hn, hc, hl, hr⟩, hN⟩ := hS
  have hxy : ints (xs ++ ys) = ints xs ++ ints ys := by simp [ints]
  cases A with
  | none =>
    have h0 : m = 0 := by
      rcases hr with h0 | ⟨_, _, e, _⟩
      · exact h0
      · cases e
    subst h0
    have hy : ys = [] := by
      rw [ints_len] at hl
      exact List.length_eq_zero_iff.1 (by omega)
    subst hy
    have hc0 := hN _ _ rfl
    subst hc0
    refine wpList_append_own_none hgd s x 24 ho base 2 i 1 Tryd.underlying24 hi v n (ints xs) hs hown hx ?_
    exact h v w (by simpa using hown) (World.grownBy.refl _ _) (.inl rfl)
  | some ad =>
    have had : ∀ j u, (ints ys)[j]? = some u → w.cell? (ad.add j) = some u := by
      rcases hr with h0 | ⟨g, of, e, _, hcell⟩
      · subst h0
        have hy : ys = [] := by
          rw [ints_len] at hl
          exact List.length_eq_zero_iff.1 (by omega)
        subst hy
        intro j u hu
        simp [ints] at hu
      · injection e with e
        subst e
        intro j u hu
        rw [addr_addN]
        exact hcell j u hu
    refine wpList_append_own_at w hgd s x 24 ho base 2 i _ 1 8 Tryd.underlying24 hi hz hsz hby rfl (by decide) v n (ints xs) hs hown ad m c (ints ys) hx (by rw [hl]) had (ints_one ys) (by simp only [maxLen]; omega) hb hbase ?_
    intro v' w' h1 h2 h3 h4
    rw [← hxy] at h1
    exact h v' w' h1 h2 h4
theorem own_any (v : Value) (m : Nat) (zs : List Int) (w : World) (hv : Rs w 1 v m (ints zs)) (hm : m ≤ 1048576) :
    Calls Tryd.prog 89 #[v] w (RetRow w 2 1 m (ints zs)) := by
  have hv' := hv.alloc (.cells #[] 2)
  have h0 := own_lit00 w 2 1
  obtain ⟨A, c, rfl, -⟩ := hv.1
  go_enter Tryd.func89, Tryd.ntmps89
  go_wp2_with (at_builtin; refine wp_appI rfl (.tmp 3) (.tmp 4) rfl w.heap.size _ _ 0 m [] zs rfl h0 rfl hv' (by omega) (by simp) ?_; intro v1 w1 hown1 hgr1 hat1)
  go_ret
  refine ⟨v1, rfl, by simpa using hown1, ?_⟩
  exact ((Below.refl _ _).alloc (Nat.le_refl _) _).grown hgr1 (by simp) (fun k hk => by have e : some w.heap.size = some k := hk; injection e with e; omega)
set_option maxRecDepth 100000 in
theorem grow_any (n : Nat) (hn : n ≤ 4194304) (w : World) : Calls Tryd.prog 77 #[.slice none 0 0, .int .i64 n] w (RetRow w 2 1 0 []) := by
  obtain ⟨i, hi, hz, hsz, hby⟩ := Tryd.zeroI
  cases Nat.eq_zero_or_pos n with
  | inl h =>
    subst h
    go_enter Tryd.func77, Tryd.ntmps77
    go_wp2
    go_ret
    exact ⟨_, rfl, ⟨rfl, .inl ⟨rfl, rfl⟩⟩, Below.refl _ _⟩
  | inr h =>
    have hn' : (0 : Int) < (n : Int) := by omega
    have hrun := fun ty => Lib.run_append_nil_zeros (P := Tryd.prog) w 24 3 ty 2 i (.int .i64 0) .i64 .i64 Tryd.underlying24 Tryd.underlying3 hi hz n h (by omega) (by omega) (by rw [hby]; omega)
    have hG := grownCap_le_maxLen w n 0 2 (by simp only [maxLen]; omega)
    have hG2 := grownCap_ge w n 0 2
    generalize grownCap w n 0 2 = G at *
    simp only [maxLen] at hG
    go_enter Tryd.func77, Tryd.ntmps77
    go_wp2_with (at_builtin; refine Lib.wpList_append_run _ rfl (.tmp 20) (.tmp 21) 24 3 rfl (.slice none 0 0) (.int .i64 n) rfl rfl _ _ (hrun _) ?_)
    go_ret
    refine ⟨_, rfl, ⟨rfl, .inr ⟨w.heap.size, G, _, rfl, Nat.le_refl _, heap_alloc_new _ _, Nat.zero_le _, by simp only [maxLen]; omega, ?_, by simp⟩⟩, (Below.refl _ _).drew.alloc (Nat.le_refl _) _⟩
    rw [Array.size_append, size_zeroCells, size_zeroCells]
    simp
    omega
def CsR (n1 n2 : Nat) (k : Nat) (s i : Value) (w wr : World) : Prop :=
  wr = w ∧ ∃ j : Nat, j + k = 2 ∧ i = .int .i64 j ∧ s = .int .i64 ((if j = 0 then 0 else if j = 1 then n1 else n1 + n2 : Nat) : Int)
def CaR (w : World) (xs ys : List Int) (k : Nat) (v i : Value) (wr : World) : Prop :=
  ∃ j : Nat, j + k = 2 ∧ i = .int .i64 j ∧ wr.ownsRow w.heap.size 2 1 v (if j = 0 then [] else if j = 1 then xs else xs ++ ys).length (ints (if j = 0 then [] else if j = 1 then xs else xs ++ ys)) ∧ Below w.heap.size w wr
set_option maxRecDepth 100000 in
set_option maxHeartbeats 1000000 in
theorem concat_any (B : Nat) (v1 v2 : Value) (n1 n2 : Nat) (xs ys : List Int) (w : World) (h1 : Rs w 1 v1 n1 (ints xs)) (h2 : Rs w 1 v2 n2 (ints ys)) (hn1 : n1 ≤ 1048576) (hn2 : n2 ≤ 1048576)
    (hB : B < w.heap.size) (c1 : w.cell? ⟨B, 0, none⟩ = some v1) (c2 : w.cell? ⟨B, 1, none⟩ = some v2) :
    Calls Tryd.prog 41 #[.slice (some ⟨B, 0, none⟩) 2 2] w (RetRow w 2 1 (n1 + n2) (ints (xs ++ ys))) := by
  have l1 : xs.length = n1 := by have := (rd_len h1.1).1; rw [ints_len] at this; omega
  have l2 : ys.length = n2 := by have := (rd_len h2.1).1; rw [ints_len] at this; omega
  have e1 : ∃ A1 k1, v1 = .slice A1 n1 k1 := by obtain ⟨A, c, rfl, _⟩ := h1.1; exact ⟨A, c, rfl⟩
  have e2 : ∃ A2 k2, v2 = .slice A2 n2 k2 := by obtain ⟨A, c, rfl, _⟩ := h2.1; exact ⟨A, c, rfl⟩
  have H1 := Lib.hid h1
  have H2 := Lib.hid h2
  have L1 := Lib.hid l1
  have L2 := Lib.hid l2
  obtain ⟨A1, k1, rfl⟩ := e1
  obtain ⟨A2, k2, rfl⟩ := e2
  clear h1 h2 l1 l2
  have kG := fun w => grow_any (n1 + n2) (by omega) w
  rw [Int.natCast_add] at kG
  go_enter Tryd.func41, Tryd.ntmps41
  go_wp2_with fail
  go_loopg [3, 11] 2 (fun k s i wr => CsR n1 n2 k s i w wr)
  case atStart => exact ⟨rfl, 0, by omega, rfl, rfl⟩
  case round =>
    obtain ⟨hw, j, hj, rfl, rfl⟩ := hrel
    obtain rfl := hw.symm
    obtain rfl | rfl | rfl : j = 0 ∨ j = 1 ∨ j = 2 := by omega
    · go_wp2
      go_roundg 1
      case measure => omega
      case rel => exact ⟨rfl, 1, by omega, by go_num, by go_num⟩
    · go_wp2
      go_roundg 0
      case measure => omega
      case rel => exact ⟨rfl, 2, by omega, by go_num, by go_num⟩
    · clear hj
      go_wp2_with fail
      apply Calls.mono
      · with_reducible exact kG _
      rintro _ w1 ⟨v0, rfl, ho0, hb0⟩
      have HO := Lib.hid ho0
      have HB := Lib.hid hb0
      have hs1 := hb0.size
      clear ho0 hb0
      go_wp2_with fail
      go_loopg [6, 27] 2 (fun k v i wx => CaR w xs ys k v i wx)
      case atStart => exact ⟨0, by omega, rfl, HO.out, HB.out⟩
      case round =>
        obtain ⟨t, ht, rfl, hown, hbw⟩ := hrel
        have hsz := hbw.size
        obtain rfl | rfl | rfl : t = 0 ∨ t = 1 ∨ t = 2 := by omega
        · have hS := H1.out.below hbw (Nat.le_refl _)
          have d1 : wr.cell? ⟨B, 0, none⟩ = some (.slice A1 n1 k1) := (hbw.cell (p := ⟨B, 0, none⟩) hB).trans c1
          have hBw : B < wr.heap.size := by omega
          have l1 := L1.out
          simp only [if_true] at hown
          go_wp2_with (at_builtin; refine wp_appI rfl (.tmp 31) (.tmp 32) rfl w.heap.size _ _ 0 n1 [] xs rfl hown rfl hS (by omega) hbw.size ?_; intro v1 w1 hown1 hgr1 hat1)
          go_roundg 1
          case measure => omega
          case rel =>
            refine ⟨1, by omega, by go_num, ?_, hbw.grown hgr1 hbw.size (fun k hk => (hown.lt k hk).1)⟩
            simpa [l1] using hown1
        · have hS := H2.out.below hbw (Nat.le_refl _)
          have d1 : wr.cell? ⟨B, 1, none⟩ = some (.slice A2 n2 k2) := (hbw.cell (p := ⟨B, 1, none⟩) hB).trans c2
          have hBw : B < wr.heap.size := by omega
          have l1 := L1.out
          have l2 := L2.out
          simp only [if_true, if_false, Nat.one_ne_zero, l1] at hown
          go_wp2_with (at_builtin; refine wp_appI rfl (.tmp 31) (.tmp 32) rfl w.heap.size _ _ n1 n2 xs ys rfl hown rfl hS (by omega) hbw.size ?_; intro v1 w1 hown1 hgr1 hat1)
          go_roundg 0
          case measure => omega
          case rel =>
            refine ⟨2, by omega, by go_num, ?_, hbw.grown hgr1 hbw.size (fun k hk => (hown.lt k hk).1)⟩
            simpa [l1, l2] using hown1
        · have l1 := L1.out
          have l2 := L2.out
          simp only [show (2 : Nat) ≠ 0 by decide, show (2 : Nat) ≠ 1 by decide, if_false, List.length_append, l1, l2] at hown
          clear ht
          go_wp2
          go_ret
          exact ⟨_, rfl, hown, hbw⟩
end Go.Proofs.YtibbokllongomaaDoor
