/-
  The least solutions in order: both packages' loops.
-/
import Derived.Test.YtkjakgemjhbfoaaPairs
namespace Go.Proofs.Ytkjakgemjhbfoaa
open Go.RowKit

theorem new_at (W : World) {cs : Array Value} {t : TypeId} {B : Nat} (hB : W.heap.size = B) : (W.alloc (.cells cs t)).heap[B]? = some (.cells cs t (0, 0)) := by subst hB; exact heap_alloc_new W _
theorem row_slice2 {w : World} {base size n : Nat} {e : TypeId} {v : Value} {xs : List Value} (h : w.ownsRow base e size v n xs) : ∃ a c, v = .slice a n c := by
  rcases h.2 with ⟨rfl, rfl⟩ | ⟨g, cap, cur, rfl, _⟩
  · exact ⟨_, _, rfl⟩
  · exact ⟨_, _, rfl⟩
theorem sizeP_any (v : Value) (n : Nat) (xs : List Value) (w : World) (hv : Rd w 2 v n xs) : Calls Try.prog 51 #[v] w (Ret w (.int .i64 n)) := by
  obtain ⟨A, c, rfl, hn1, hc1, _, hr1⟩ := hv
  have hn : (n : Int) ≤ 9223372036854775807 := by simp only [maxLen] at hc1; omega
  clear hr1
  go_enter Try.func51, Try.ntmps51
  go_wp2
  go_ret
  refine ⟨by first | rfl | (simp), ?_⟩
  repeat' (first | (with_reducible exact Below.refl _ _) | (with_reducible assumption) | (with_reducible refine Below.alloc ?_ ?_ _) | (with_reducible refine Below.drew ?_) | (with_reducible refine bdrewN ?_ _) | (with_reducible refine Below.setCell ?_ ?_ _) | (with_reducible refine bthen ?_ (by assumption) ?_) | go_size)
theorem ppB_stop {d X Y : Int} {b : Bool} {t n : Nat} (h : (ppS d X Y b t).2 = false) (ht : t < n) : ppB d X Y b n = false := by
  obtain ⟨m, rfl⟩ : ∃ m, n = m + 1 := ⟨n - 1, by omega⟩
  exact pp_stop h m (by omega)
def PpR (w : World) (d X Y : Int) (b : Bool) (n gl : Nat) (k : Nat) (v vb vp : Value) (wr : World) : Prop :=
  ∃ (t g : Nat) (x y x0 y0 : Int), (t ≤ n ∧ n ≤ t + k) ∧ vb = .bool (ppS d X Y b t).2 ∧ vp = .pointer (some ⟨g, 0, none⟩) ∧ ((ppS d X Y b t).2 = true → x = (ppS d X Y b t).1.1 ∧ y = (ppS d X Y b t).1.2) ∧ (b = true → x0 = X ∧ y0 = Y) ∧ ppB d X Y b t = true ∧
    wr.ownsRow w.heap.size 26 2 v t (prs (ppL d X Y b t)) ∧ (v.ownBlock ≠ some g ∧ v.ownBlock ≠ some gl) ∧ Blk wr g 26 #[.int .i64 x, .int .i64 y] ∧ Blk wr gl 26 #[.int .i64 x0, .int .i64 y0] ∧ Below w.heap.size w wr ∧ (w.heap.size ≤ gl ∧ w.heap.size ≤ g)
set_option maxRecDepth 100000 in
set_option maxHeartbeats 4000000 in
theorem pellPairsI_any (d n : Int) (w : World) : Calls Try.prog 16 #[.int .i64 d, .int .i64 n] w (PpP w (ppM d n)) := by
  obtain ⟨i1, hi1, hy0, hy1, hy2⟩ := info_parts Try.infoP
  by_cases h : pdM d = 0
  · have H := Lib.hid h
    cases h2 : inB n 0 50
    · have e : ppM d n = ([], 2) := by unfold ppM; rw [if_pos h, h2]; rfl
      rw [e]; clear e
      have H2 := Lib.hid h2
      clear h h2
      go_enter Try.func16, Try.ntmps16
      go_wp2_with fail
      apply Calls.mono
      · with_reducible exact checkPell0_any _ 0 H.out _
      rintro _ w1 ⟨rfl, hb_w1⟩
      obtain ⟨hc_w1, hf_w1, hs_w1⟩ := bcell hb_w1
      try simp at hs_w1
      go_wp2_with fail
      apply Calls.mono
      · with_reducible exact within_any _ _ _ false H2.out _
      rintro _ w2 ⟨rfl, hb_w2⟩
      obtain ⟨hc_w2, hf_w2, hs_w2⟩ := bcell hb_w2
      try simp at hs_w2
      go_wp2
      go_ret2
      exact ⟨_, rfl, World.ownsRow_nil _ _ _ _, by repeat' (first | (with_reducible exact Below.refl _ _) | (with_reducible assumption) | (with_reducible refine Below.alloc ?_ ?_ _) | (with_reducible refine Below.drew ?_) | (with_reducible refine bdrewN ?_ _) | (with_reducible refine Below.setCell ?_ ?_ _) | (with_reducible refine bthen ?_ (by assumption) ?_) | go_size)⟩
    · obtain ⟨a1, a2⟩ := inB_iff.1 h2
      have H2 := Lib.hid h2
      obtain ⟨h1, h3, _⟩ := pd_zero h
      obtain ⟨N, rfl⟩ := Int.eq_ofNat_of_zero_le a1
      have hM1 : ppB d (lsX d (perN d)) (lsY d (perN d)) (lsB d (perN d)) N = true → ppM d N = (ppL d (lsX d (perN d)) (lsY d (perN d)) (lsB d (perN d)) N, 0) := fun hb => by unfold ppM; rw [if_pos h, h2, Int.toNat_natCast, if_pos rfl, if_pos hb]
      have hM2 : ppB d (lsX d (perN d)) (lsY d (perN d)) (lsB d (perN d)) N = false → ppM d N = ([], 5) := fun hb => by unfold ppM; rw [if_pos h, h2, Int.toNat_natCast, if_pos rfl, if_neg (by rw [hb]; decide)]
      have kL := fun w => leastPell_any d h w
      have hok := fun k => pp_ok (d := d) (X := lsX d (perN d)) (Y := lsY d (perN d)) (b := lsB d (perN d)) (fun hb => ls_ok hb) k
      have hokL : lsB d (perN d) = true → okP d (lsX d (perN d)) (lsY d (perN d)) = true := fun hb => ls_ok hb
      unfold LeastP at kL
      generalize ppM d N = M at *
      generalize lsX d (perN d) = X at *
      generalize lsY d (perN d) = Y at *
      generalize lsB d (perN d) = b at *
      have HM1 := Lib.hid hM1
      have HM2 := Lib.hid hM2
      have HOK := Lib.hid hok
      have HOKL := Lib.hid hokL
      clear hM1 hM2 h h2 hok hokL
      go_enter Try.func16, Try.ntmps16
      go_wp2_with fail
      apply Calls.mono
      · with_reducible exact checkPell0_any _ 0 H.out _
      rintro _ w1 ⟨rfl, hb_w1⟩
      obtain ⟨hc_w1, hf_w1, hs_w1⟩ := bcell hb_w1
      try simp at hs_w1
      go_wp2_with fail
      apply Calls.mono
      · with_reducible exact within_any _ _ _ true H2.out _
      rintro _ w2 ⟨rfl, hb_w2⟩
      obtain ⟨hc_w2, hf_w2, hs_w2⟩ := bcell hb_w2
      try simp at hs_w2
      go_wp2_with fail
      apply Calls.mono
      · with_reducible exact kL _
      rintro _ w3 ⟨x0, y0, rfl, hxy, hb_w3⟩
      have q1 := hb_w1.size
      have q2 := hb_w2.size
      have q3 := hb_w3.size
      have bel0 : Below w.heap.size w w3 := by repeat' (first | (with_reducible exact Below.refl _ _) | (with_reducible assumption) | (with_reducible refine Below.alloc ?_ ?_ _) | (with_reducible refine Below.drew ?_) | (with_reducible refine bdrewN ?_ _) | (with_reducible refine Below.setCell ?_ ?_ _) | (with_reducible refine bthen ?_ (by assumption) ?_) | go_size)
      clear hc_w1 hf_w1 hc_w2 hf_w2 kL
      go_wp2_with fail
      go_loopg [7, 9, 10] N (PpR w d X Y b N w3.heap.size)
      case atStart =>
        refine ⟨0, w3.heap.size + 1, x0, y0, x0, y0, ⟨by omega, by omega⟩, rfl, rfl, hxy, hxy, rfl, World.ownsRow_nil _ _ _ _, ⟨by simp [Value.ownBlock], by simp [Value.ownBlock]⟩, ?_, (Blk.new w3 _ _).alloc _, (bel0.alloc (by omega) _).alloc (by rw [World.size_alloc]; omega) _, by omega, by omega⟩
        have hb := Blk.new (w3.alloc (.cells #[.int .i64 x0, .int .i64 y0] 26)) 26 #[.int .i64 x0, .int .i64 y0]
        rw [World.size_alloc] at hb
        exact hb
      case round =>
        obtain ⟨t, g, x, y, x1, y1, ⟨ht1, ht2⟩, rfl, rfl, hx, hx0, hB, hown, ⟨hv1, hv2⟩, hG, hL, hbw, hgl, hg⟩ := hrel
        have qr := hbw.size
        have lG := hG.lt
        have lL := hL.lt
        have hl := ppL_len d X Y b t
        by_cases htn : t < N
        · have htn' : (t : Int) < (N : Int) := by omega
          have hbad : (ppS d X Y b t).2 = false → ppB d X Y b N = false := fun h => ppB_stop h htn
          have hsuc : ppL d X Y b (t + 1) = ppL d X Y b t ++ [(ppS d X Y b t).1] := ppL_succ d X Y b t
          have hokt := HOK.out t
          have hsB : ppB d X Y b (t + 1) = (ppS d X Y b t).2 := rfl
          have hs1 : (ppS d X Y b (t + 1)).1 = (mxP d (ppS d X Y b t).1.1 (ppS d X Y b t).1.2 X Y, myP (ppS d X Y b t).1.1 (ppS d X Y b t).1.2 X Y) := rfl
          have hs2 : (ppS d X Y b (t + 1)).2 = ((ppS d X Y b t).2 && (fitP d (ppS d X Y b t).1.2 Y && okP d (mxP d (ppS d X Y b t).1.1 (ppS d X Y b t).1.2 X Y) (myP (ppS d X Y b t).1.1 (ppS d X Y b t).1.2 X Y))) := rfl
          have hb0 : (ppS d X Y b t).2 = true → b = true := fun h => by
            cases hb : b
            · have := pp_stop (d := d) (X := X) (Y := Y) (b := b) (k := 0) hb t (by omega)
              rw [this] at h; cases h
            · rfl
          cases hst : (ppS d X Y b t).2
          · have hM := HM2.out (hbad hst)
            subst hM
            clear hbad hsuc hokt hsB hs1 hs2 hx hb0
            obtain ⟨va, vc, rfl⟩ := row_slice2 hown
            go_wp2_with fail
            apply Calls.mono
            · with_reducible exact sizeP_any _ _ _ _ (Rd.of_own hown)
            rintro _ w4 ⟨rfl, hb_w4⟩
            go_wp2
            go_ret2
            exact ⟨_, rfl, World.ownsRow_nil _ _ _ _, bthen hbw hb_w4 (by omega)⟩
          · obtain ⟨rfl, rfl⟩ := hx hst
            have hbt := hb0 hst
            obtain ⟨rfl, rfl⟩ := hx0 hbt
            have kM := fun w => mulPairs_any d _ _ _ _ h1 h3 (hokt hst) (HOKL.out hbt) w
            rw [hst, Bool.true_and] at hs2
            rw [hst] at hsB
            have HSU := Lib.hid hsuc
            have HSB := Lib.hid hsB
            have HS1 := Lib.hid hs1
            have HS2 := Lib.hid hs2
            clear hbad hsuc hokt hsB hs1 hs2 hx hx0 hb0 hbt hst
            obtain ⟨⟨s1, s2⟩, hs⟩ : ∃ s, (ppS d x1 y1 b t).1 = s := ⟨_, rfl⟩
            rw [hs] at kM HSU HS1 HS2 hG
            clear hs
            simp only at kM hG
            generalize hbk : (fitP d s2 y1 && okP d (mxP d s1 s2 x1 y1) (myP s1 s2 x1 y1)) = bk at *
            generalize hmx : mxP d s1 s2 x1 y1 = mx at *
            generalize hmy : myP s1 s2 x1 y1 = my at *
            obtain ⟨mx', hmx'⟩ : ∃ z, (if bk then mx else 0) = z := ⟨_, rfl⟩
            obtain ⟨my', hmy'⟩ : ∃ z, (if bk then my else 0) = z := ⟨_, rfl⟩
            rw [hmx', hmy'] at kM
            have HX' := Lib.hid hmx'
            have HY' := Lib.hid hmy'
            clear hbk hmx hmy hmx' hmy'
            obtain ⟨va, vc, rfl⟩ := row_slice2 hown
            generalize hvv : Value.ownBlock (.slice va t vc) = vb at *
            have HVV := Lib.hid hvv
            clear hvv
            go_wp2_with fail
            apply Calls.mono
            · with_reducible exact sizeP_any _ _ _ _ (Rd.of_own hown)
            rintro _ w4 ⟨rfl, hb_w4⟩
            have q4 := hb_w4.size
            have hG4 := hG.below hb_w4 lG
            have hL4 := hL.below hb_w4 lL
            have ho4 := own_below hown hb_w4 (Nat.le_refl _)
            have bel4 := bthen hbw hb_w4 (by omega)
            have hvl : ∀ k, vb = some k → w.heap.size ≤ k ∧ k < w4.heap.size := fun k hk => ho4.lt k (HVV.out.trans hk)
            have c1 : w4.cell? ⟨g, 0, none⟩ = some (.int .i64 s1) := hG4.cell 0
            have c2 : w4.cell? ⟨g, 1, none⟩ = some (.int .i64 s2) := hG4.cell 1
            have lG4 : g < w4.heap.size := by omega
            have KA : ∀ w5, (w4.alloc (.cells #[.int .i64 s1, .int .i64 s2] 26)).grownBy w5 (Value.ownBlock (.slice va t vc)) → (w5.cell? ⟨g, 0, none⟩ = some (.int .i64 s1) ∧ w5.cell? ⟨g, 1, none⟩ = some (.int .i64 s2)) ∧ Blk w5 w3.heap.size 26 #[.int .i64 x1, .int .i64 y1] ∧ (w5.cell? ⟨w3.heap.size, 0, none⟩ = some (.int .i64 x1) ∧ w5.cell? ⟨w3.heap.size, 1, none⟩ = some (.int .i64 y1)) ∧ (g < w5.heap.size ∧ w3.heap.size < w5.heap.size) ∧ Below w.heap.size w w5 ∧ (g ≠ w5.heap.size ∧ w3.heap.size ≠ w5.heap.size) := fun w5 hg => by
              rw [HVV.out] at hg
              have hs := hg.size
              rw [World.size_alloc] at hs
              have g1 := (hG4.alloc (.cells #[.int .i64 s1, .int .i64 s2] 26)).grown hg (fun e => hv1 e.symm)
              have g2 := (hL4.alloc (.cells #[.int .i64 s1, .int .i64 s2] 26)).grown hg (fun e => hv2 e.symm)
              exact ⟨⟨g1.cell 0, g1.cell 1⟩, g2, ⟨g2.cell 0, g2.cell 1⟩, ⟨by omega, by omega⟩, (bel4.alloc (by omega) _).grown hg (by rw [World.size_alloc]; omega) (fun k hk => (hvl k hk).1), ⟨by omega, by omega⟩⟩
            go_wp2_with (at_builtin; refine wpList_append_lies _ rfl (.tmp 38) (.tmp 40) 37 rfl w.heap.size 26 i1 _ 2 16 Try.underlying37 hi1 hy0 hy1 hy2 rfl (by decide) _ t _ rfl (ho4.alloc _) ⟨w4.heap.size, 0, none⟩ 1 1 [.int .i64 s1, .int .i64 s2] rfl rfl (World.news_of_block (cs := #[.int .i64 s1, .int .i64 s2]) (t := 26) (fr := (0, 0)) (new_at _ (by simp))) (by simp [Value.oneCell']) (by decide) (by simp only [maxLen]; omega) (by omega) (by simp; omega) (w4.heap.size + 1) (by simp) ?_; intro g5 cap5 w5 hown5 hgr5 hat5 hlt5; obtain ⟨⟨f1, f2⟩, f3, ⟨f4, f5⟩, ⟨f6, f7⟩, f8, ⟨f9, f10⟩⟩ := KA _ hgr5)
            apply Calls.mono
            · with_reducible exact kM _
            rintro _ w6 ⟨rfl, hb_w6⟩
            have q6 := hb_w6.size
            rw [World.size_alloc] at q6
            have hN6 := (Blk.new w5 26 #[.int .i64 s1, .int .i64 s2]).below hb_w6 (by rw [World.size_alloc]; omega)
            have hL6 := (f3.alloc (.cells #[.int .i64 s1, .int .i64 s2] 26)).below hb_w6 (by rw [World.size_alloc]; omega)
            have ho6 := own_below (hown5.alloc (.cells #[.int .i64 s1, .int .i64 s2] 26)) hb_w6 (Nat.le_refl _)
            have bel6 := bthen (f8.alloc f8.size _) hb_w6 (by rw [World.size_alloc]; have := f8.size; omega)
            have n1 : w6.cell? ⟨w5.heap.size, 0, none⟩ = some (.int .i64 s1) := hN6.cell 0
            have n2 : w6.cell? ⟨w5.heap.size, 1, none⟩ = some (.int .i64 s2) := hN6.cell 1
            have n3 : w6.frozen? ⟨w5.heap.size, 0, none⟩ = false := hN6.frozen 0
            have n4 : w6.frozen? ⟨w5.heap.size, 1, none⟩ = false := hN6.frozen 1
            have n5 : w5.heap.size < w6.heap.size := by omega
            have q8 := f8.size
            go_wp2
            go_roundg (gk - 1)
            case measure => omega
            case rel =>
              have hsn := prs_snoc (ppL d x1 y1 b t) (s1, s2)
              have ho7 : w6.ownsRow w.heap.size 26 2 (.slice (some ⟨g5, 0, none⟩) (t + 1) cap5) (t + 1) (prs (ppL d x1 y1 b (t + 1))) := by rw [HSU.out, hsn]; exact ho6
              have ne1 : Value.ownBlock (.slice (some ⟨g5, 0, none⟩) (t + 1) cap5) ≠ some w5.heap.size := fun e => by have e : some g5 = some w5.heap.size := e; injection e with e; omega
              have ne2 : Value.ownBlock (.slice (some ⟨g5, 0, none⟩) (t + 1) cap5) ≠ some w3.heap.size := fun e => by
                have e : some g5 = some w3.heap.size := e
                injection e with e
                rcases hat5 with h | h
                · have h : Value.ownBlock (.slice va t vc) = some g5 := h
                  rw [HVV.out] at h; exact hv2 (by rw [h, e])
                · omega
              refine ⟨t + 1, w5.heap.size, mx', my', x1, y1, ⟨by omega, by omega⟩, ?_, rfl, ?_, fun _ => ⟨rfl, rfl⟩, HSB.out, ?_, ⟨ne1, ne2⟩, hN6.set2 _ _, ?_, ?_, by omega, by omega⟩
              · rw [HS2.out]
              · intro hh
                rw [HS2.out] at hh
                rw [HS1.out, ← HX'.out, ← HY'.out, hh]
                exact ⟨rfl, rfl⟩
              · exact own_far (p := ⟨w5.heap.size, 1, none⟩) (own_far (p := ⟨w5.heap.size, 0, none⟩) ho7 ne1 _) ne1 _
              · exact (hL6.far (p := ⟨w5.heap.size, 0, none⟩) f10 _).far (p := ⟨w5.heap.size, 1, none⟩) f10 _
              · exact (bel6.setCell (p := ⟨w5.heap.size, 0, none⟩) (by simp; omega) _).setCell (p := ⟨w5.heap.size, 1, none⟩) (by simp; omega) _
        · obtain rfl : t = N := by omega
          have hM := HM1.out hB
          subst hM
          obtain ⟨va, vc, rfl⟩ := row_slice2 hown
          go_wp2_with fail
          apply Calls.mono
          · with_reducible exact sizeP_any _ _ _ _ (Rd.of_own hown)
          rintro _ w4 ⟨rfl, hb_w4⟩
          have ho4 := own_below hown hb_w4 (Nat.le_refl _)
          go_wp2
          go_ret2
          refine ⟨_, rfl, ?_, bthen hbw hb_w4 (by omega)⟩
          simp only [hl]
          exact ho4
  · have e : ppM d n = ([], pdM d) := by unfold ppM; rw [if_neg h]
    rw [e]; clear e
    have hne : (pdM d != 0) = true := by simpa using h
    generalize hc : pdM d = c at *
    have HC := Lib.hid hc
    clear hc h
    go_enter Try.func16, Try.ntmps16
    go_wp2_with fail
    apply Calls.mono
    · with_reducible exact checkPell0_any _ c HC.out _
    rintro _ w1 ⟨rfl, hb_w1⟩
    obtain ⟨hc_w1, hf_w1, hs_w1⟩ := bcell hb_w1
    try simp at hs_w1
    go_wp2
    go_ret2
    exact ⟨_, rfl, World.ownsRow_nil _ _ _ _, by repeat' (first | (with_reducible exact Below.refl _ _) | (with_reducible assumption) | (with_reducible refine Below.alloc ?_ ?_ _) | (with_reducible refine Below.drew ?_) | (with_reducible refine bdrewN ?_ _) | (with_reducible refine Below.setCell ?_ ?_ _) | (with_reducible refine bthen ?_ (by assumption) ?_) | go_size)⟩
theorem own_lit0' (w : World) (e : TypeId) (size : Nat) : (w.alloc (.cells #[] e)).ownsRow w.heap.size e size (.slice (some ⟨w.heap.size, 0, none⟩) 0 0) 0 [] :=
  World.ownsRow_lit w #[] 0 (Nat.le_refl _) (by simp [maxLen]) (by simp)
def PpSR (w : World) (d X Y : Int) (b : Bool) (n gl g : Nat) (k : Nat) (v vb i : Value) (wr : World) : Prop :=
  ∃ (t : Nat) (x y x0 y0 : Int) (bb : Bool), (t ≤ n ∧ n ≤ t + k) ∧ vb = .bool bb ∧ i = .int .i64 t ∧ (t < n → bb = (ppS d X Y b t).2 ∧ ((ppS d X Y b t).2 = true → x = (ppS d X Y b t).1.1 ∧ y = (ppS d X Y b t).1.2)) ∧ (b = true → x0 = X ∧ y0 = Y) ∧ ppB d X Y b t = true ∧
    wr.ownsRow w.heap.size 26 2 v t (prs (ppL d X Y b t)) ∧ (v.ownBlock ≠ some g ∧ v.ownBlock ≠ some gl) ∧ Blk wr g 26 #[.int .i64 x, .int .i64 y] ∧ Blk wr gl 26 #[.int .i64 x0, .int .i64 y0] ∧ Below w.heap.size w wr
end Go.Proofs.Ytkjakgemjhbfoaa
