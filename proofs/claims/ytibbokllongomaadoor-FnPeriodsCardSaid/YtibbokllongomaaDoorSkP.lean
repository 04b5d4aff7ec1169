/-
  The conditions of a head and a period: the reference's way (an append behind a guard).
-/
import Derived.Test.YtibbokllongomaaDoorCon
import Derived.Test.YtibbokllongomaaDoorSkT
namespace Go.Proofs.YtibbokllongomaaDoor
open Go.RowKit

/-- An append behind '&&' or '||' whose guard is met. -/
theorem wp_appG (w : World) {ops : Array Oper} {rest : List Oper} {o : Oper} {a : Act} {Q : Exit → Act → World → Prop} (hw : Region.wanted o (yielded ops a.tmps) = true) (s x : Operand)
    (ho : o.op = .call { callee := .builtin .append, args := #[s, x], argTypes := #[24, 24] })
    (base : Nat) (v : Value) (n m : Nat) (xs ys : List Int) (hs : a.eval s = v) (hown : w.ownsRow base 2 1 v n (ints xs))
    (g of c : Nat) (hx : a.eval x = .slice (some ⟨g, of, none⟩) m c) (hl : ys.length = m) (hcell : ∀ j u, (ints ys)[j]? = some u → w.cell? ⟨g, of + j, none⟩ = some u) (hb : (n + m) * 8 ≤ 140737488355328) (hbase : base ≤ w.heap.size)
    (h : ∀ v' w', w'.ownsRow base 2 1 v' (n + m) (ints (xs ++ ys)) → w.grownBy w' v.ownBlock → wpList Tryd.prog ops Q rest (a.put o.dst v') w') :
    wpList Tryd.prog ops Q (o :: rest) a w := by
  obtain ⟨i, hi, hz, hsz, hby⟩ := Tryd.zeroI
  have hxy : ints (xs ++ ys) = ints xs ++ ints ys := by simp [ints]
  refine wpList_step fun K hK => ?_
  rw [if_pos hw]
  obtain ⟨v', w', hr, h2, h3, h4, h5⟩ := run_append_own_at (P := Tryd.prog) w base 24 o.type 2 i _ 1 8 Tryd.underlying24 hi hz hsz hby rfl (by decide) v n (ints xs) hown ⟨g, of, none⟩ m c (ints ys) (by rw [ints_len, hl, Nat.mul_one]) (fun j u hu => by rw [addr_addN]; exact hcell j u hu) (ints_one ys) (by simp only [maxLen]; omega) hb hbase
  exact Lib.wp_append_run w s x 24 24 ho v _ hs hx v' w' hr (hK _ _ (h v' w' (by rw [hxy]; exact h2) h3))
set_option maxHeartbeats 1000000 in
set_option maxRecDepth 100000 in
theorem l08Terms_any (v1 v2 : Value) (n1 n2 : Nat) (hs ls : List Int) (w : World) (h1 : Rs w 1 v1 n1 (ints hs)) (h2 : Rs w 1 v2 n2 (ints ls)) (b1 : n1 ≤ 1048576) (b2 : n2 ≤ 1048576) (r : Bool) (hr : pdB hs ls = r) :
    Calls Tryd.prog 58 #[v1, v2] w (Ret w (.bool r)) := by
  have l1 : hs.length = n1 := by have := (rd_len h1.1).1; rw [ints_len] at this; omega
  have l2 : ls.length = n2 := by have := (rd_len h2.1).1; rw [ints_len] at this; omega
  have hu : pdB hs ls = (decide (1 ≤ ls.length) && decide (1 ≤ ls.getD 0 0) && tmsB (hs ++ ls)) := rfl
  obtain ⟨A1, k1, rfl, -⟩ := id h1.1
  obtain ⟨A2, k2, rfl, _, _, _, hr2⟩ := id h2.1
  by_cases h0 : n2 = 0
  · subst h0
    obtain rfl : ls = [] := List.length_eq_zero_iff.1 l2
    obtain rfl : false = r := by rw [← hr, hu]; rfl
    clear h1 h2 l1 l2 hu hr hr2
    go_enter Tryd.func58, Tryd.ntmps58
    go_wp2
    go_ret
    refine ⟨by first | rfl | (simp), ?_⟩
    repeat' (first | (with_reducible exact Below.refl _ _) | (with_reducible assumption) | (with_reducible refine Below.alloc ?_ ?_ _) | (with_reducible refine Below.drew ?_) | (with_reducible refine bdrewN ?_ _) | (with_reducible refine Below.setCell ?_ ?_ _) | (with_reducible refine bthen ?_ (by assumption) ?_) | go_size)
  · rcases hr2 with e | ⟨g, o, rfl, hg, hcell⟩
    · omega
    obtain ⟨z, zs, rfl⟩ := List.exists_cons_of_length_pos (show 0 < ls.length by omega)
    have c0 : w.cell? ⟨g, o, none⟩ = some (.int .i64 z) := hcell 0 _ rfl
    have hn2 : (0 : Int) < (n2 : Int) := by omega
    have hu' : (decide (1 ≤ z) && tmsB (hs ++ z :: zs)) = r := by rw [← hr, hu]; simp
    have HC := Lib.hid hcell
    have HLL := Lib.hid l2
    clear hu hr hcell
    by_cases hz : 1 ≤ z
    · have hu2 : tmsB (hs ++ z :: zs) = r := by rw [← hu', decide_eq_true hz, Bool.true_and]
      clear hu'
      have b3 : n1 + n2 ≤ 4194304 := by omega
      have kO := own_any _ n1 hs w h1 b1
      have H2 := Lib.hid h2
      clear h1 h2 l1 l2
      go_enter Tryd.func58, Tryd.ntmps58
      go_wp2_with fail
      apply Calls.mono
      · with_reducible exact kO
      rintro _ w1 ⟨v, rfl, hown, hb_w1⟩
      have hs1 := hb_w1.size
      have hcl : ∀ j u, (ints (z :: zs))[j]? = some u → w1.cell? ⟨g, o + j, none⟩ = some u := fun j u hu => (hb_w1.cell (p := ⟨g, o + j, none⟩) hg).trans (HC.out j u hu)
      have HCL := Lib.hid hcl
      clear hcl
      go_wp2_with (at_builtin; refine wp_appG _ rfl (.tmp 16) (.tmp 17) rfl w.heap.size _ n1 n2 hs (z :: zs) rfl hown g o k2 rfl HLL.out HCL.out (by omega) hs1 ?_; intro v2 w2 hown2 hgr2)
      have bel2 : Below w.heap.size w w2 := hb_w1.grown hgr2 hs1 (fun k hk => (hown.lt k hk).1)
      have hs2 := bel2.size
      have kV := l03Ok_any v2 (n1 + n2) (hs ++ z :: zs) w2 (Rd.of_own hown2) b3 r hu2
      go_wp2_with fail
      apply Calls.mono
      · with_reducible exact kV
      rintro _ w3 ⟨rfl, hb_w3⟩
      go_wp2
      go_ret
      refine ⟨by first | rfl | (simp), ?_⟩
      repeat' (first | (with_reducible exact Below.refl _ _) | (with_reducible assumption) | (with_reducible refine Below.alloc ?_ ?_ _) | (with_reducible refine Below.drew ?_) | (with_reducible refine bdrewN ?_ _) | (with_reducible refine Below.setCell ?_ ?_ _) | (with_reducible refine bthen ?_ (by assumption) ?_) | go_size)
    · obtain rfl : false = r := by rw [← hu', decide_eq_false hz, Bool.false_and]
      clear hu' h1 h2 l1 l2
      go_enter Tryd.func58, Tryd.ntmps58
      go_wp2
      go_ret
      refine ⟨by first | rfl | (simp), ?_⟩
      repeat' (first | (with_reducible exact Below.refl _ _) | (with_reducible assumption) | (with_reducible refine Below.alloc ?_ ?_ _) | (with_reducible refine Below.drew ?_) | (with_reducible refine bdrewN ?_ _) | (with_reducible refine Below.setCell ?_ ?_ _) | (with_reducible refine bthen ?_ (by assumption) ?_) | go_size)
end Go.Proofs.YtibbokllongomaaDoor
