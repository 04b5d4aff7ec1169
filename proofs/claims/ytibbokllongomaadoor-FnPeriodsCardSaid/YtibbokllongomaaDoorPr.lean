/-
  The head and the period of a surd: the program's way.
-/
import Derived.Test.YtibbokllongomaaDoorWk4
namespace Go.Proofs.YtibbokllongomaaDoor
open Go.RowKit

theorem take_lt {xs : List Int} {x : Int} {j : Nat} (h : xs.length < j) : (xs ++ [x]).take j = xs.take j ++ [x] ∧ (xs ++ [x]).drop j = xs.drop j := by
  rw [List.take_of_length_le (by simp; omega), List.take_of_length_le (by omega), List.drop_of_length_le (by simp; omega), List.drop_of_length_le (by omega)]
  exact ⟨rfl, rfl⟩
theorem take_ge {xs : List Int} {x : Int} {j : Nat} (h : j ≤ xs.length) : (xs ++ [x]).take j = xs.take j ∧ (xs ++ [x]).drop j = xs.drop j ++ [x] := ⟨List.take_append_of_le_length h, List.drop_append_of_le_length h⟩
theorem tm_zero (d : Int) (o : Nat → Int × Int) (j : Nat) : ints ((tmL d o 0).take j) = [] ∧ ints ((tmL d o 0).drop j) = [] := by simp [tmL, ints]
def PeR (w : World) (d : Int) (o : Nat → Int × Int) (j n : Nat) (k : Nat) (va vb i : Value) (wr : World) : Prop :=
  ∃ t : Nat, t ≤ n ∧ n ≤ t + k ∧ i = .int .i64 t ∧ wr.ownsRow w.heap.size 2 1 va (min t j) (ints ((tmL d o t).take j)) ∧ wr.ownsRow w.heap.size 2 1 vb (t - j) (ints ((tmL d o t).drop j)) ∧ (va.ownBlock = none ∨ va.ownBlock ≠ vb.ownBlock) ∧ Below w.heap.size w wr
def PerP (w : World) (d : Int) (o : Nat → Int × Int) (r : Option (Nat × Nat)) (e : Ending) (w' : World) : Prop :=
  (∃ j m v1 v2, r = some (j, m) ∧ e = .returned (.tuple #[v1, v2, .bool true]) ∧ w'.ownsRow w.heap.size 2 1 v1 j (ints ((tmL d o m).take j)) ∧ w'.ownsRow w.heap.size 2 1 v2 (m - j) (ints ((tmL d o m).drop j)) ∧ (v1.ownBlock = none ∨ v1.ownBlock ≠ v2.ownBlock) ∧ Below w.heap.size w w') ∨
  (r = none ∧ e = .returned (.tuple #[.slice none 0 0, .slice none 0 0, .bool false]) ∧ Below w.heap.size w w')
set_option maxHeartbeats 4000000 in
theorem periodOf_any (p d q : Int) (h : okS p d q = true) (w : World) :
    Calls Tryd.prog 121 #[.agg #[.int .i64 p, .int .i64 d, .int .i64 q]] w (PerP w d (orb d (p, q)) (wk d (p, q))) := by
  obtain ⟨i1, hi1, hy0, hy1, hy2⟩ := info_parts Tryd.infoI
  have kS := fun w => surdsOf_any p d q h w
  have hws := fun {j m} (hr : wk d (p, q) = some (j, m)) => wk_some hr h
  generalize wk d (p, q) = r at *
  generalize orb d (p, q) = o at *
  go_enter Tryd.func121, Tryd.ntmps121
  go_wp2_with fail
  apply Calls.mono
  · with_reducible exact kS _
  rintro _ w1 (⟨j, n, v, hr, rfl, hown, hb_w1⟩ | ⟨hr, rfl, hb_w1⟩)
  · obtain ⟨hjn, hn4, _, hok, _⟩ := hws hr
    have HOK := Lib.hid hok
    have HR := Lib.hid hr
    have hs1 := hb_w1.size
    rw [World.size_alloc] at hs1
    have bel1 : Below w.heap.size w w1 := by
      have := hb_w1
      repeat' (first | (with_reducible exact Below.refl _ _) | (with_reducible assumption) | (with_reducible refine Below.alloc ?_ ?_ _) | (with_reducible refine Below.drew ?_) | (with_reducible refine bdrewN ?_ _) | (with_reducible refine Below.setCell ?_ ?_ _) | (with_reducible refine bthen ?_ (by assumption) ?_) | go_size)
    obtain ⟨A, c, rfl, hn1, hc1, _, hr1⟩ := Rd.of_own hown
    have R1 := Lib.hid hr1
    clear hr1 hr hok kS hws h hown
    go_wp2_with fail
    go_loopg [8, 9, 22] n (PeR w1 d o j n)
    case atStart => exact ⟨0, by omega, by omega, rfl, by rw [Nat.zero_min, (tm_zero d o j).1]; exact World.ownsRow_nil _ _ _ _, by rw [Nat.zero_sub, (tm_zero d o j).2]; exact World.ownsRow_nil _ _ _ _, Or.inl rfl, Below.refl _ _⟩
    case round =>
      obtain ⟨t, ht, htk, rfl, hoa, hob, hap, hbw⟩ := hrel
      have hlen := tmL_len d o t
      by_cases htn : t < n
      · rcases R1.out with h0 | ⟨g, of, rfl, hg, hcell⟩
        · omega
        have hokt := HOK.out t (by omega)
        have hy := osn_get o n t htn
        have hti : tmL d o (t + 1) = tmL d o t ++ [tmX d (o t)] := tmL_succ d o t
        have hfx : tmX d (o t) = flS (o t).1 d (o t).2 := rfl
        have c1 : wr.cell? ⟨g, of + t * 3, none⟩ = some (.int .i64 (o t).1) := (hbw.cell (p := ⟨g, of + t * 3, none⟩) hg).trans (hcell (t * 3) _ (srd_get hy).1)
        have c2 : wr.cell? ⟨g, of + t * 3 + 1, none⟩ = some (.int .i64 d) := (hbw.cell (p := ⟨g, of + t * 3 + 1, none⟩) hg).trans (hcell (t * 3 + 1) _ (srd_get hy).2.1)
        have c3 : wr.cell? ⟨g, of + t * 3 + 2, none⟩ = some (.int .i64 (o t).2) := (hbw.cell (p := ⟨g, of + t * 3 + 2, none⟩) hg).trans (hcell (t * 3 + 2) _ (srd_get hy).2.2)
        have hs := hbw.size
        have hgw : g < wr.heap.size := by omega
        have htn' : (t : Int) < (n : Int) := by omega
        have kL := fun w => floorSurd_any (o t).1 d (o t).2 hokt _ rfl w
        rw [← hfx] at kL
        generalize tmX d (o t) = a at *
        have HTI := Lib.hid hti
        clear hy hcell R1 hfx hti hokt
        generalize (o t).1 = x at *
        generalize (o t).2 = y at *
        by_cases htj : t < j
        · have htj' : (t : Int) < (j : Int) := by omega
          obtain ⟨k1, k2⟩ := take_lt (xs := tmL d o t) (x := a) (j := j) (by omega)
          have hmin : min t j = t := by omega
          have K1 := Lib.hid k1
          have K2 := Lib.hid k2
          rw [hmin] at hoa
          clear k1 k2 hmin
          go_wp2_with fail
          apply Calls.mono
          · with_reducible exact kL _
          rintro _ w2 ⟨rfl, hb_w2⟩
          have hs2 := hb_w2.size
          rw [World.size_alloc] at hs2
          have ha2 := own_below (hoa.alloc _) hb_w2 (Nat.le_refl _)
          have hb2 := own_below (hob.alloc _) hb_w2 (Nat.le_refl _)
          have bel2 : Below w1.heap.size w1 w2 := bthen (hbw.alloc hbw.size _) hb_w2 (by rw [World.size_alloc]; omega)
          go_wp2_with (at_builtin; refine wpList_append_lies _ rfl (.tmp 30) (.tmp 33) 24 rfl w1.heap.size 2 i1 _ 1 8 Tryd.underlying24 hi1 hy0 hy1 hy2 rfl (by decide) _ t _ rfl (ha2.alloc _) ⟨w2.heap.size, 0, none⟩ 1 1 [.int .i64 a] rfl rfl (World.news_of_block (cs := #[.int .i64 a]) (t := 2) (fr := (0, 0)) (heap_alloc_new w2 _)) (by simp [Value.oneCell']) (by decide) (by simp only [maxLen]; omega) (by omega) (by simp; omega) (w2.heap.size + 1) (by simp) ?_; intro g4 cap4 w4 hown4 hgr4 hat4 hlt4)
          go_roundg (gk - 1)
          case measure => omega
          case rel =>
            have hb4 := (hb2.alloc (.cells #[.int .i64 a] 2)).kept hgr4 (apart_symm hap)
            refine ⟨t + 1, by omega, by omega, by go_num, ?_, ?_, ?_, (bel2.alloc (by omega) _).grown hgr4 (by rw [World.size_alloc]; omega) (fun k hk => (ha2.lt k hk).1)⟩
            · rw [show min (t + 1) j = t + 1 by omega, HTI.out, K1.out, ints_snoc]; exact hown4
            · rw [show t + 1 - j = t - j by omega, HTI.out, K2.out]; exact hb4
            · right
              intro e
              rcases hat4 with h | h
              · rcases hap with h2 | h2
                · exact absurd (h2.symm.trans h) (by simp)
                · exact h2 (h.trans e)
              · have := (hb2.lt g4 e.symm).2
                omega
        · have htj' : (j : Int) ≤ (t : Int) := by omega
          obtain ⟨k1, k2⟩ := take_ge (xs := tmL d o t) (x := a) (j := j) (by omega)
          have hmin : min t j = j := by omega
          have K1 := Lib.hid k1
          have K2 := Lib.hid k2
          rw [hmin] at hoa
          clear k1 k2 hmin
          go_wp2_with fail
          apply Calls.mono
          · with_reducible exact kL _
          rintro _ w2 ⟨rfl, hb_w2⟩
          have hs2 := hb_w2.size
          rw [World.size_alloc] at hs2
          have ha2 := own_below (hoa.alloc _) hb_w2 (Nat.le_refl _)
          have hb2 := own_below (hob.alloc _) hb_w2 (Nat.le_refl _)
          have bel2 : Below w1.heap.size w1 w2 := bthen (hbw.alloc hbw.size _) hb_w2 (by rw [World.size_alloc]; omega)
          go_wp2_with (at_builtin; refine wpList_append_lies _ rfl (.tmp 35) (.tmp 38) 24 rfl w1.heap.size 2 i1 _ 1 8 Tryd.underlying24 hi1 hy0 hy1 hy2 rfl (by decide) _ (t - j) _ rfl (hb2.alloc _) ⟨w2.heap.size, 0, none⟩ 1 1 [.int .i64 a] rfl rfl (World.news_of_block (cs := #[.int .i64 a]) (t := 2) (fr := (0, 0)) (heap_alloc_new w2 _)) (by simp [Value.oneCell']) (by decide) (by simp only [maxLen]; omega) (by omega) (by simp; omega) (w2.heap.size + 1) (by simp) ?_; intro g4 cap4 w4 hown4 hgr4 hat4 hlt4)
          go_roundg (gk - 1)
          case measure => omega
          case rel =>
            have ha4 := (ha2.alloc (.cells #[.int .i64 a] 2)).kept hgr4 hap
            refine ⟨t + 1, by omega, by omega, by go_num, ?_, ?_, ?_, (bel2.alloc (by omega) _).grown hgr4 (by rw [World.size_alloc]; omega) (fun k hk => (hb2.lt k hk).1)⟩
            · rw [show min (t + 1) j = j by omega, HTI.out, K1.out]; exact ha4
            · rw [show t + 1 - j = t - j + 1 by omega, HTI.out, K2.out, ints_snoc]; exact hown4
            · rcases hat4 with h | h
              · rcases hap with h2 | h2
                · exact Or.inl h2
                · right; intro e; exact h2 (e.trans h.symm)
              · right
                intro e
                have := (ha2.lt g4 e).2
                omega
      · obtain rfl : t = n := by omega
        rw [show min t j = j by omega] at hoa
        go_wp2
        go_ret3
        exact Or.inl ⟨j, t, _, _, HR.out, rfl, own_base hoa (by omega), own_base hob (by omega), hap, bthen bel1 hbw (by omega)⟩
  · clear hws kS
    go_wp2
    go_ret3
    refine Or.inr ⟨hr, rfl, ?_⟩
    repeat' (first | (with_reducible exact Below.refl _ _) | (with_reducible assumption) | (with_reducible refine Below.alloc ?_ ?_ _) | (with_reducible refine Below.drew ?_) | (with_reducible refine bdrewN ?_ _) | (with_reducible refine Below.setCell ?_ ?_ _) | (with_reducible refine bthen ?_ (by assumption) ?_) | go_size)
end Go.Proofs.YtibbokllongomaaDoor
