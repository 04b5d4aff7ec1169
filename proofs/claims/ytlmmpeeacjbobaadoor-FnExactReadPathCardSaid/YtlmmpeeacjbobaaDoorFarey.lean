/-
  The Farey sequence of both packages: for each order that is let in, each returns the same list, and comes to its end.
-/
import Derived.Test.YtlmmpeeacjbobaaDoorFareyM
import Derived.Maps.AppendAt
import Derived.Deep.AppendLies
namespace Go.Proofs.YtlmmpeeacjbobaaDoor
open Go.RowKit

def FarSR (w : World) (N : Int) (ba bb : Nat) (k : Nat) (v : Value) (wr : World) : Prop :=
  ∃ (a b : Int × Int) (xs : List (Int × Int)), xs.length + k ≤ 601 ∧ goodS N k a b = true ∧ xs ++ farS N k a b = farL N ∧
    wr.ownsRow w.heap.size 43 2 v xs.length (prs xs) ∧ Blk wr ba 43 #[.int .i64 a.1, .int .i64 a.2] ∧ Blk wr bb 43 #[.int .i64 b.1, .int .i64 b.2] ∧
    v.ownBlock ≠ some ba ∧ v.ownBlock ≠ some bb ∧ Below w.heap.size w wr
set_option maxHeartbeats 2000000 in
theorem l06All_any (N : Int) (h1 : 1 ≤ N) (h2 : N ≤ 40) (w : World) :
    Calls Tryd.prog 45 #[.int .i64 N] w (RetRow w 43 2 (farL N).length (prs (farL N))) := by
  obtain ⟨i0, hi0, hz0, hz1, hz2⟩ := info_parts Tryd.infoF
  obtain ⟨f1, f2, f3, f4⟩ := far_facts h1 h2
  have F2 := Lib.hid f2
  have F3 := Lib.hid f3
  clear f1 f2 f3 f4
  go_enter Tryd.func45, Tryd.ntmps45
  go_wp2_with fail
  go_loopg [5] 600 (FarSR w N w.heap.size (w.heap.size + 1))
  case atStart =>
    refine ⟨(0, 1), (1, N), [(0, 1)], by simp, F2.out, by rw [← F3.out]; rfl, ?_, ?_, ?_, by simp [Value.ownBlock]; omega, by simp [Value.ownBlock], ?_⟩
    · exact own_lit2 w _ _ _ _
    · exact ((Blk.new w _ _).alloc _).alloc _
    · exact blk_new2 w _ _ _ _
    · repeat' (first | (with_reducible exact Below.refl _ _) | (with_reducible assumption) | (with_reducible refine Below.alloc ?_ ?_ _) | (with_reducible refine Below.drew ?_) | (with_reducible refine bdrewN ?_ _) | (with_reducible refine Below.setCell ?_ ?_ _) | (with_reducible refine bthen ?_ (by assumption) ?_) | go_size)
  case round =>
    obtain ⟨⟨a1, a2⟩, ⟨b1, b2⟩, xs, hlen, hgood, hlist, hown, hBa, hBb, hva, hvb, hbw⟩ := hrel
    obtain ⟨k', rfl⟩ : ∃ k', gk = k' + 1 := by
      cases gk with
      | zero => simp [goodS] at hgood
      | succ k => exact ⟨k, rfl⟩
    unfold goodS at hgood
    unfold farS at hlist
    obtain ⟨hok, hgood⟩ := Bool.and_eq_true_iff.1 hgood
    obtain ⟨q1, q2, q3, q4, q5, q6, q7, q8⟩ := okP_spec hok
    simp only at q1 q2 q3 q4 q5 q6 q7 q8
    have c1 : wr.cell? ⟨w.heap.size, 0, none⟩ = some (.int .i64 a1) := hBa.cell 0
    have c2 : wr.cell? ⟨w.heap.size, 1, none⟩ = some (.int .i64 a2) := hBa.cell 1
    have c3 : wr.cell? ⟨w.heap.size + 1, 0, none⟩ = some (.int .i64 b1) := hBb.cell 0
    have c4 : wr.cell? ⟨w.heap.size + 1, 1, none⟩ = some (.int .i64 b2) := hBb.cell 1
    have la := hBa.lt
    have lb := hBb.lt
    by_cases hle : b1 ≤ b2
    · rw [if_pos hle] at hgood hlist
      have HG := Lib.hid hgood
      have HL := Lib.hid hlist
      have hq := Int.ediv_nonneg (a := N + a2) (b := b2) (by omega) (by omega)
      have hq2 : (N + a2) / b2 ≤ 200 := by have := Int.ediv_le_self (b := b2) (show 0 ≤ N + a2 by omega); omega
      obtain ⟨m1, m2⟩ := mul_bd (a := (N + a2) / b2) (b := b1) (A := 200) (B := 100) (by omega) hq2 (by omega) q6
      obtain ⟨m3, m4⟩ := mul_bd (a := (N + a2) / b2) (b := b2) (A := 200) (B := 100) (by omega) hq2 (by omega) q8
      clear hgood hlist hok
      have KA : ∀ w1 : World, (wr.alloc (.cells #[.int .i64 b1, .int .i64 b2] 43)).grownBy w1 u5.ownBlock → _ := fun w1 hg => blk_two (hBa.alloc (.cells #[.int .i64 b1, .int .i64 b2] 43)) (hBb.alloc (.cells #[.int .i64 b1, .int .i64 b2] 43)) hg hva hvb
      go_wp2_with (at_builtin; refine wpList_append_own_at _ rfl (.tmp 18) (.tmp 20) 36 rfl w.heap.size 43 i0 _ 2 16 Tryd.underlying36 hi0 hz0 hz1 hz2 rfl (by decide) _ xs.length (prs xs) rfl (hown.alloc _) ⟨wr.heap.size, 0, none⟩ 1 1 [.int .i64 b1, .int .i64 b2] rfl rfl (World.news_of_block (cs := #[.int .i64 b1, .int .i64 b2]) (t := 43) (fr := (0, 0)) (heap_alloc_new wr _)) (by simp [Value.oneCell']) (by simp only [maxLen]; omega) (by omega) (by simp; omega) ?_; intro v1 w1 hown1 hgr1 _ hat1; obtain ⟨hBa1, hBb1, d1, d2, d3, d4, e1, e2, e3, e4, l1, l2⟩ := KA _ hgr1)
      have hbw1 : Below w.heap.size w w1 := (hbw.alloc hbw.size _).grown hgr1 (by rw [World.size_alloc]; have := hbw.size; omega) (fun k hk => (hown.lt k hk).1)
      have n1 : v1.ownBlock ≠ some w.heap.size := by
        rcases hat1 with e | e <;> rw [e]
        · exact hva
        · simp; omega
      have n2 : v1.ownBlock ≠ some (w.heap.size + 1) := by
        rcases hat1 with e | e <;> rw [e]
        · exact hvb
        · simp; omega
      go_roundg k'
      case measure => omega
      case rel =>
        refine ⟨(b1, b2), fnext N (a1, a2) (b1, b2), xs ++ [(b1, b2)], by simp; omega, HG.out, by rw [List.append_assoc]; exact HL.out, ?_, ?_, ?_, n1, n2, ?_⟩
        · rw [List.length_append, prs_snoc]
          show World.ownsRow _ _ _ _ _ (xs.length + 1) (prs xs ++ [.int .i64 b1, .int .i64 b2])
          repeat' (first | (with_reducible assumption) | (with_reducible refine World.ownsRow.alloc ?_ _) | (with_reducible refine World.ownsRow.drew ?_) | (with_reducible refine own_far ?_ (by first | assumption | (simp [Value.ownBlock]; done) | (simp [Value.ownBlock]; omega)) _))
        · show Blk _ _ _ #[.int .i64 b1, .int .i64 b2]
          with_reducible refine Blk.alloc (Blk.far (Blk.far (Blk.set2 (x := .int .i64 a1) (y := .int .i64 a2) ?_ _ _) (by simp) _) (by simp) _) _
          repeat' (first | (with_reducible assumption) | (with_reducible refine Blk.alloc ?_ _) | (with_reducible refine Blk.drew ?_) | (with_reducible refine Blk.set2 ?_ _ _) | (with_reducible refine Blk.far ?_ (by first | (simp; done) | (simp; omega)) _))
        · show Blk _ _ _ #[.int .i64 ((N + a2) / b2 * b1 - a1), .int .i64 ((N + a2) / b2 * b2 - a2)]
          with_reducible refine Blk.alloc (Blk.set2 (x := .int .i64 b1) (y := .int .i64 b2) ?_ _ _) _
          repeat' (first | (with_reducible assumption) | (with_reducible refine Blk.alloc ?_ _) | (with_reducible refine Blk.drew ?_) | (with_reducible refine Blk.set2 ?_ _ _) | (with_reducible refine Blk.far ?_ (by first | (simp; done) | (simp; omega)) _))
        · repeat' (first | (with_reducible exact Below.refl _ _) | (with_reducible assumption) | (with_reducible refine Below.alloc ?_ ?_ _) | (with_reducible refine Below.drew ?_) | (with_reducible refine bdrewN ?_ _) | (with_reducible refine Below.setCell ?_ ?_ _) | (with_reducible refine bthen ?_ (by assumption) ?_) | go_size)
    · rw [if_neg hle] at hlist
      have HL := Lib.hid hlist
      have hle' : ¬ b1 ≤ b2 := hle
      clear hlist hgood hok
      go_wp2
      go_ret
      refine ⟨_, rfl, ?_, hbw⟩
      rw [← HL.out, List.append_nil]
      exact hown
def FarIR (w : World) (N : Int) (k : Nat) (v va vb : Value) (wr : World) : Prop :=
  ∃ (ba bb : Nat) (a b : Int × Int) (xs : List (Int × Int)), xs.length + k ≤ 601 ∧ goodI N k a b = true ∧ xs ++ farI N k a b = farL N ∧
    wr.ownsRow w.heap.size 43 2 v xs.length (prs xs) ∧ va = .pointer (some ⟨ba, 0, none⟩) ∧ vb = .pointer (some ⟨bb, 0, none⟩) ∧ Blk wr ba 43 #[.int .i64 a.1, .int .i64 a.2] ∧ Blk wr bb 43 #[.int .i64 b.1, .int .i64 b.2] ∧
    w.heap.size ≤ ba ∧ w.heap.size ≤ bb ∧ ba ≠ bb ∧ v.ownBlock ≠ some ba ∧ v.ownBlock ≠ some bb ∧ Below w.heap.size w wr
theorem own_lit1 (w : World) (x y : Int) : (w.alloc (.cells #[.int .i64 x, .int .i64 y] 43)).ownsRow w.heap.size 43 2 (.slice (some ⟨w.heap.size, 0, none⟩) 1 1) 1 (prs [(x, y)]) :=
  World.ownsRow_lit (base := w.heap.size) (size := 2) (e := 43) w #[.int .i64 x, .int .i64 y] 1 (Nat.le_refl _) (by simp [maxLen]) rfl
theorem blk_at (W : World) (t : TypeId) (cs : Array Value) (n : Nat) (hn : W.heap.size = n) (o : Obj) : Blk ((W.alloc (.cells cs t)).alloc o).drew n t cs := by
  subst hn
  exact ((Blk.new W t cs).alloc o).drew
theorem blk_at1 (W : World) (t : TypeId) (cs : Array Value) (n : Nat) (hn : W.heap.size = n) : Blk (W.alloc (.cells cs t)).drew n t cs := by
  subst hn
  exact (Blk.new W t cs).drew
set_option maxHeartbeats 2000000 in
theorem farey_any (N : Int) (h1 : 1 ≤ N) (h2 : N ≤ 40) (w : World) :
    Calls Tryd.prog 48 #[.int .i64 N] w (RetRow w 43 2 (farL N).length (prs (farL N))) := by
  obtain ⟨i0, hi0, hz0, hz1, hz2⟩ := info_parts Tryd.infoF
  obtain ⟨f1, f2, f3, f4⟩ := far_facts h1 h2
  have F1 := Lib.hid f1
  clear f1 f2 f3 f4
  go_enter Tryd.func48, Tryd.ntmps48
  go_wp2_with fail
  go_loopg [3, 4, 5] 600 (FarIR w N)
  case atStart =>
    refine ⟨w.heap.size + 1, w.heap.size + 1 + 1, (0, 1), (1, N), [(0, 1)], by simp, F1.out, rfl, ?_, rfl, rfl, ?_, ?_, by omega, by omega, by omega, by simp [Value.ownBlock], by simp [Value.ownBlock]; omega, ?_⟩
    · exact ((own_lit1 w 0 1).alloc _).alloc _
    · exact blk_new2 w _ _ _ _
    · have h := Blk.new ((w.alloc (.cells #[.int .i64 0, .int .i64 1] 43)).alloc (.cells #[.int .i64 0, .int .i64 1] 43)) 43 #[.int .i64 1, .int .i64 N]
      rw [World.size_alloc, World.size_alloc] at h
      exact h
    · repeat' (first | (with_reducible exact Below.refl _ _) | (with_reducible assumption) | (with_reducible refine Below.alloc ?_ ?_ _) | (with_reducible refine Below.drew ?_) | (with_reducible refine bdrewN ?_ _) | (with_reducible refine Below.setCell ?_ ?_ _) | (with_reducible refine bthen ?_ (by assumption) ?_) | go_size)
  case round =>
    obtain ⟨ba, bb, ⟨a1, a2⟩, ⟨b1, b2⟩, xs, hlen, hgood, hlist, hown, rfl, rfl, hBa, hBb, hla, hlb, hab, hva, hvb, hbw⟩ := hrel
    obtain ⟨k', rfl⟩ : ∃ k', gk = k' + 1 := by
      cases gk with
      | zero => simp [goodI] at hgood
      | succ k => exact ⟨k, rfl⟩
    unfold goodI at hgood
    unfold farI at hlist
    obtain ⟨hok, hgood⟩ := Bool.and_eq_true_iff.1 hgood
    obtain ⟨q1, q2, q3, q4, q5, q6, q7, q8⟩ := okP_spec hok
    simp only at q1 q2 q3 q4 q5 q6 q7 q8
    have c1 : wr.cell? ⟨ba, 0, none⟩ = some (.int .i64 a1) := hBa.cell 0
    have c2 : wr.cell? ⟨ba, 1, none⟩ = some (.int .i64 a2) := hBa.cell 1
    have c3 : wr.cell? ⟨bb, 0, none⟩ = some (.int .i64 b1) := hBb.cell 0
    have c4 : wr.cell? ⟨bb, 1, none⟩ = some (.int .i64 b2) := hBb.cell 1
    have la := hBa.lt
    have lb := hBb.lt
    have KA : ∀ w1 : World, (wr.alloc (.cells #[.int .i64 b1, .int .i64 b2] 43)).grownBy w1 u3.ownBlock → _ := fun w1 hg => blk_two (hBa.alloc (.cells #[.int .i64 b1, .int .i64 b2] 43)) (hBb.alloc (.cells #[.int .i64 b1, .int .i64 b2] 43)) hg hva hvb
    by_cases hle : b1 = b2
    · rw [if_pos hle] at hlist
      have HL := Lib.hid hlist
      subst hle
      clear hgood hlist hok
      go_wp2_with (at_builtin; refine wpList_append_own_at _ rfl (.tmp 12) (.tmp 14) 36 rfl w.heap.size 43 i0 _ 2 16 Tryd.underlying36 hi0 hz0 hz1 hz2 rfl (by decide) _ xs.length (prs xs) rfl (hown.alloc _) ⟨wr.heap.size, 0, none⟩ 1 1 [.int .i64 b1, .int .i64 b1] rfl rfl (World.news_of_block (cs := #[.int .i64 b1, .int .i64 b1]) (t := 43) (fr := (0, 0)) (heap_alloc_new wr _)) (by simp [Value.oneCell']) (by simp only [maxLen]; omega) (by omega) (by simp; omega) ?_; intro v1 w1 hown1 hgr1 _ hat1; obtain ⟨hBa1, hBb1, d1, d2, d3, d4, e1, e2, e3, e4, l1, l2⟩ := KA _ hgr1)
      have hbw1 : Below w.heap.size w w1 := (hbw.alloc hbw.size _).grown hgr1 (by rw [World.size_alloc]; have := hbw.size; omega) (fun k hk => (hown.lt k hk).1)
      go_ret
      refine ⟨_, rfl, ?_, hbw1⟩
      rw [← HL.out, List.length_append, prs_snoc]
      exact hown1
    · rw [if_neg hle] at hgood hlist
      have HG := Lib.hid hgood
      have HL := Lib.hid hlist
      have hne : (b1 == b2) = false := by simp [hle]
      have hq := Int.ediv_nonneg (a := N + a2) (b := b2) (by omega) (by omega)
      have hq2 : (N + a2) / b2 ≤ 200 := by have := Int.ediv_le_self (b := b2) (show 0 ≤ N + a2 by omega); omega
      obtain ⟨m1, m2⟩ := mul_bd (a := (N + a2) / b2) (b := b1) (A := 200) (B := 100) (by omega) hq2 (by omega) q6
      obtain ⟨m3, m4⟩ := mul_bd (a := (N + a2) / b2) (b := b2) (A := 200) (B := 100) (by omega) hq2 (by omega) q8
      clear hgood hlist hok hle
      go_wp2_with (at_builtin; refine wpList_append_own_at _ rfl (.tmp 12) (.tmp 14) 36 rfl w.heap.size 43 i0 _ 2 16 Tryd.underlying36 hi0 hz0 hz1 hz2 rfl (by decide) _ xs.length (prs xs) rfl (hown.alloc _) ⟨wr.heap.size, 0, none⟩ 1 1 [.int .i64 b1, .int .i64 b2] rfl rfl (World.news_of_block (cs := #[.int .i64 b1, .int .i64 b2]) (t := 43) (fr := (0, 0)) (heap_alloc_new wr _)) (by simp [Value.oneCell']) (by simp only [maxLen]; omega) (by omega) (by simp; omega) ?_; intro v1 w1 hown1 hgr1 _ hat1; obtain ⟨hBa1, hBb1, d1, d2, d3, d4, e1, e2, e3, e4, l1, l2⟩ := KA _ hgr1)
      have hbw1 : Below w.heap.size w w1 := (hbw.alloc hbw.size _).grown hgr1 (by rw [World.size_alloc]; have := hbw.size; omega) (fun k hk => (hown.lt k hk).1)
      have s1 := hbw1.size
      have n1 : v1.ownBlock ≠ some ba := by
        rcases hat1 with e | e <;> rw [e]
        · exact hva
        · simp; omega
      have n2 : v1.ownBlock ≠ some bb := by
        rcases hat1 with e | e <;> rw [e]
        · exact hvb
        · simp; omega
      have n3 := no_block hown1 (Nat.le_refl _)
      have n4 := no_block hown1 (Nat.le_succ _)
      have N3 := Lib.hid n3
      have N4 := Lib.hid n4
      clear n3 n4
      go_region
      go_wp2
      go_roundg k'
      case measure => omega
      case rel =>
        refine ⟨w1.heap.size, w1.heap.size + 1, (b1, b2), fnext N (a1, a2) (b1, b2), xs ++ [(b1, b2)], by simp; omega, HG.out, by rw [List.append_assoc]; exact HL.out, ?_, rfl, rfl, ?_, ?_, by omega, by omega, by omega, Ne.symm N3.out, Ne.symm N4.out, ?_⟩
        · rw [List.length_append, prs_snoc]
          show World.ownsRow _ _ _ _ _ (xs.length + 1) (prs xs ++ [.int .i64 b1, .int .i64 b2])
          repeat' (first | (with_reducible assumption) | (with_reducible refine World.ownsRow.alloc ?_ _) | (with_reducible refine World.ownsRow.drew ?_) | (with_reducible refine own_far ?_ (by first | assumption | (simp [Value.ownBlock]; done) | (simp [Value.ownBlock]; omega)) _))
        · exact blk_at _ _ _ _ (by simp) _
        · exact blk_at1 _ _ _ _ (by simp)
        · repeat' (first | (with_reducible exact Below.refl _ _) | (with_reducible assumption) | (with_reducible refine Below.alloc ?_ ?_ _) | (with_reducible refine Below.drew ?_) | (with_reducible refine bdrewN ?_ _) | (with_reducible refine Below.setCell ?_ ?_ _) | (with_reducible refine bthen ?_ (by assumption) ?_) | go_size)
end Go.Proofs.YtlmmpeeacjbobaaDoor
