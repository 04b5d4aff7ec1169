/-
  The terms of a surd: both packages' loops.
-/
import Derived.Test.YtibbokllongomaaDoorPr2
import Derived.Test.YtibbokllongomaaDoorPof
namespace Go.Proofs.YtibbokllongomaaDoor
open Go.RowKit

def okU (d : Int) (o : Nat → Int × Int) : Nat → Bool
  | 0 => true
  | k + 1 => okU d o k && okX d (o k)
theorem okU_bad {d : Int} {o : Nat → Int × Int} {t n : Nat} (h : okX d (o t) = false) (ht : t < n) : okU d o n = false := by
  induction n with
  | zero => omega
  | succ n ih =>
    unfold okU
    rcases Nat.lt_or_ge t n with g | g
    · rw [ih g]; rfl
    · obtain rfl : t = n := by omega
      rw [h, Bool.and_false]
def tsM (p d q n : Int) : List Int × Int :=
  if okS p d q then (if inB n 0 200 then (if okU d (orb d (p, q)) n.toNat then (tmL d (orb d (p, q)) n.toNat, 0) else ([], 5)) else ([], 2)) else ([], 1)
def TsP (w : World) (M : List Int × Int) (e : Ending) (w' : World) : Prop :=
  ∃ v, e = .returned (.tuple #[v, .int .i64 M.2]) ∧ w'.ownsRow w.heap.size 2 1 v M.1.length (ints M.1) ∧ Below w.heap.size w w'
theorem ts_small (p d q n : Int) : (tsM p d q n).1.length ≤ 400 := by
  unfold tsM
  split
  · split
    · rename_i h
      obtain ⟨a, b⟩ := inB_iff.1 h
      split
      · simp only [tmL_len]; omega
      · simp
    · simp
  · simp
theorem new_at (W : World) {cs : Array Value} {t : TypeId} {B : Nat} (hB : W.heap.size = B) : (W.alloc (.cells cs t)).heap[B]? = some (.cells cs t (0, 0)) := by subst hB; exact heap_alloc_new W _
def TsR (w : World) (d : Int) (o : Nat → Int × Int) (n : Nat) (k : Nat) (v : Value) (wr : World) : Prop :=
  ∃ t : Nat, t ≤ n ∧ n ≤ t + k ∧ (t < n → okX d (o t) = true) ∧ okU d o t = true ∧ wr.ownsRow (w.heap.size + 1) 2 1 v t (ints (tmL d o t)) ∧
    Blk wr w.heap.size 28 #[.int .i64 (o t).1, .int .i64 d, .int .i64 (o t).2] ∧ Below w.heap.size w wr ∧ w.heap.size + 1 ≤ wr.heap.size
def TsS (w : World) (d : Int) (o : Nat → Int × Int) (n : Nat) (k : Nat) (v i : Value) (wr : World) : Prop :=
  ∃ t : Nat, (t < n ∨ t = 0 ∧ n = 0) ∧ n ≤ t + k ∧ i = .int .i64 t ∧ (t < n → okX d (o t) = true) ∧ okU d o t = true ∧ wr.ownsRow (w.heap.size + 1) 2 1 v t (ints (tmL d o t)) ∧
    Blk wr w.heap.size 28 #[.int .i64 (o t).1, .int .i64 d, .int .i64 (o t).2] ∧ Below w.heap.size w wr ∧ w.heap.size + 1 ≤ wr.heap.size
set_option maxRecDepth 100000 in
set_option maxHeartbeats 4000000 in
theorem termsS_any (p d q n : Int) (w : World) : Calls Tryd.prog 13 #[.agg #[.int .i64 p, .int .i64 d, .int .i64 q], .int .i64 n] w (TsP w (tsM p d q n)) := by
  obtain ⟨i1, hi1, hy0, hy1, hy2⟩ := info_parts Tryd.infoI
  cases h : okS p d q
  · have e : tsM p d q n = ([], 1) := by unfold tsM; rw [h]; rfl
    rw [e]; clear e
    have H := Lib.hid h
    clear h
    go_enter Tryd.func13, Tryd.ntmps13
    go_wp2_with fail
    apply Calls.mono
    · with_reducible exact l07Ok_any _ _ _ false H.out _
    rintro _ w1 ⟨rfl, hb_w1⟩
    obtain ⟨hc_w1, hf_w1, hs_w1⟩ := bcell hb_w1
    try simp at hs_w1
    have hz_w1_w0 : w.heap.size < w1.heap.size := by omega
    have hy_w1_w0 : w.heap.size ≤ w1.heap.size := by omega
    have hx_w1_w0 : ∀ n : Nat, w.heap.size < w1.heap.size + n := by intro n; omega
    have hv_w1_w0 : ∀ n : Nat, w.heap.size ≤ w1.heap.size + n := by intro n; omega
    go_wp2
    go_ret2
    exact ⟨_, rfl, World.ownsRow_nil _ _ _ _, by repeat' (first | (with_reducible exact Below.refl _ _) | (with_reducible assumption) | (with_reducible refine Below.alloc ?_ ?_ _) | (with_reducible refine Below.drew ?_) | (with_reducible refine bdrewN ?_ _) | (with_reducible refine Below.setCell ?_ ?_ _) | (with_reducible refine bthen ?_ (by assumption) ?_) | go_size)⟩
  · have H := Lib.hid h
    cases h2 : inB n 0 200
    · have e : tsM p d q n = ([], 2) := by unfold tsM; rw [h, h2]; rfl
      rw [e]; clear e
      have H2 := Lib.hid h2
      clear h h2
      go_enter Tryd.func13, Tryd.ntmps13
      go_wp2_with fail
      apply Calls.mono
      · with_reducible exact l07Ok_any _ _ _ true H.out _
      rintro _ w1 ⟨rfl, hb_w1⟩
      obtain ⟨hc_w1, hf_w1, hs_w1⟩ := bcell hb_w1
      try simp at hs_w1
      have hz_w1_w0 : w.heap.size < w1.heap.size := by omega
      have hy_w1_w0 : w.heap.size ≤ w1.heap.size := by omega
      have hx_w1_w0 : ∀ n : Nat, w.heap.size < w1.heap.size + n := by intro n; omega
      have hv_w1_w0 : ∀ n : Nat, w.heap.size ≤ w1.heap.size + n := by intro n; omega
      go_wp2_with fail
      apply Calls.mono
      · with_reducible exact l00In_any _ _ _ false H2.out _
      rintro _ w2 ⟨rfl, hb_w2⟩
      obtain ⟨hc_w2, hf_w2, hs_w2⟩ := bcell hb_w2
      try simp at hs_w2
      have hz_w2_w0 : w.heap.size < w2.heap.size := by omega
      have hy_w2_w0 : w.heap.size ≤ w2.heap.size := by omega
      have hx_w2_w0 : ∀ n : Nat, w.heap.size < w2.heap.size + n := by intro n; omega
      have hv_w2_w0 : ∀ n : Nat, w.heap.size ≤ w2.heap.size + n := by intro n; omega
      go_wp2
      go_ret2
      exact ⟨_, rfl, World.ownsRow_nil _ _ _ _, by repeat' (first | (with_reducible exact Below.refl _ _) | (with_reducible assumption) | (with_reducible refine Below.alloc ?_ ?_ _) | (with_reducible refine Below.drew ?_) | (with_reducible refine bdrewN ?_ _) | (with_reducible refine Below.setCell ?_ ?_ _) | (with_reducible refine bthen ?_ (by assumption) ?_) | go_size)⟩
    · obtain ⟨a1, a2⟩ := inB_iff.1 h2
      have H2 := Lib.hid h2
      obtain ⟨N, rfl⟩ := Int.eq_ofNat_of_zero_le a1
      have e : tsM p d q N = (if okU d (orb d (p, q)) N then (tmL d (orb d (p, q)) N, 0) else ([], 5)) := by unfold tsM; rw [h, h2, Int.toNat_natCast]; rfl
      rw [e]; clear e
      have hM1 : okU d (orb d (p, q)) N = true → (if okU d (orb d (p, q)) N then (tmL d (orb d (p, q)) N, (0 : Int)) else ([], 5)) = (tmL d (orb d (p, q)) N, 0) := fun h => if_pos h
      have hM2 : okU d (orb d (p, q)) N = false → (if okU d (orb d (p, q)) N then (tmL d (orb d (p, q)) N, (0 : Int)) else ([], 5)) = ([], 5) := fun h => if_neg (by rw [h]; decide)
      generalize (if okU d (orb d (p, q)) N then (tmL d (orb d (p, q)) N, (0 : Int)) else ([], 5)) = M at *
      have HM1 := Lib.hid hM1
      have HM2 := Lib.hid hM2
      clear hM1 hM2
      have h0 : okX d (orb d (p, q) 0) = true := h
      have e0 : orb d (p, q) 0 = (p, q) := rfl
      have ho : ∀ n, orb d (p, q) (n + 1) = nxt d (orb d (p, q) n) := fun n => rfl
      generalize orb d (p, q) = o at *
      have H0 := Lib.hid h0
      have E0 := Lib.hid e0
      have HO := Lib.hid ho
      clear h h2 h0 e0 ho
      go_enter Tryd.func13, Tryd.ntmps13
      go_wp2_with fail
      apply Calls.mono
      · with_reducible exact l07Ok_any _ _ _ true H.out _
      rintro _ w1 ⟨rfl, hb_w1⟩
      obtain ⟨hc_w1, hf_w1, hs_w1⟩ := bcell hb_w1
      try simp at hs_w1
      have hz_w1_w0 : w.heap.size < w1.heap.size := by omega
      have hy_w1_w0 : w.heap.size ≤ w1.heap.size := by omega
      have hx_w1_w0 : ∀ n : Nat, w.heap.size < w1.heap.size + n := by intro n; omega
      have hv_w1_w0 : ∀ n : Nat, w.heap.size ≤ w1.heap.size + n := by intro n; omega
      go_wp2_with fail
      apply Calls.mono
      · with_reducible exact l00In_any _ _ _ true H2.out _
      rintro _ w2 ⟨rfl, hb_w2⟩
      obtain ⟨hc_w2, hf_w2, hs_w2⟩ := bcell hb_w2
      try simp at hs_w2
      have hz_w2_w0 : w.heap.size < w2.heap.size := by omega
      have hy_w2_w0 : w.heap.size ≤ w2.heap.size := by omega
      have hx_w2_w0 : ∀ n : Nat, w.heap.size < w2.heap.size + n := by intro n; omega
      have hv_w2_w0 : ∀ n : Nat, w.heap.size ≤ w2.heap.size + n := by intro n; omega
      have q1 := hb_w1.size
      have q2 := hb_w2.size
      rw [World.size_alloc] at q1
      have hB0 := ((Blk.new w 28 #[.int .i64 p, .int .i64 d, .int .i64 q]).below hb_w1 (by simp)).below hb_w2 (by omega)
      have bel0 : Below w.heap.size w w2 := by repeat' (first | (with_reducible exact Below.refl _ _) | (with_reducible assumption) | (with_reducible refine Below.alloc ?_ ?_ _) | (with_reducible refine Below.drew ?_) | (with_reducible refine bdrewN ?_ _) | (with_reducible refine Below.setCell ?_ ?_ _) | (with_reducible refine bthen ?_ (by assumption) ?_) | go_size)
      have hL0 := own_base (own_lit0 w2 2 1) (show w.heap.size + 1 ≤ w2.heap.size by omega)
      clear hc_w1 hf_w1 hc_w2 hf_w2
      go_wp2_with fail
      go_loopg [6, 7] N (TsS w d o N)
      case atStart =>
        refine ⟨0, by omega, by omega, rfl, fun _ => H0.out, rfl, hL0, ?_, bel0.alloc (by omega) _, by rw [World.size_alloc]; omega⟩
        rw [E0.out]; exact hB0.alloc _
      case round =>
        obtain ⟨t, ht, htk, rfl, hokt, hou, hown, hB, hbw, hsz⟩ := hrel
        have hl := tmL_len d o t
        by_cases htn : t < N
        · have hok := hokt htn
          have hti : tmL d o (t + 1) = tmL d o t ++ [tmX d (o t)] := tmL_succ d o t
          have hfx : tmX d (o t) = flS (o t).1 d (o t).2 := rfl
          have hn1 : (o (t + 1)).1 = hdS (o t).1 d (o t).2 := by rw [HO.out]; rfl
          have hn2 : (o (t + 1)).2 = tlS (o t).1 d (o t).2 := by rw [HO.out]; rfl
          have hou2 : okU d o (t + 1) = true := by unfold okU; rw [hou, hok]; rfl
          have htn' : (t : Int) < (N : Int) := by omega
          have hbad : okX d (o (t + 1)) = false → t + 1 < N → okU d o N = false := fun h1 h2 => okU_bad h1 h2
          have kL := fun w => l07Floor_any (o t).1 d (o t).2 hok _ rfl w
          have kF : okX d (o (t + 1)) = false → ∃ a' b' c', ∀ w, Calls Tryd.prog 48 #[.agg #[.int .i64 (o t).1, .int .i64 d, .int .i64 (o t).2], .int .i64 (tmX d (o t))] w (Ret w (.tuple #[.agg #[.int .i64 a', .int .i64 b', .int .i64 c'], .bool false])) := by
            intro hb
            have hb' : okS (hdS (o t).1 d (o t).2) d (tlS (o t).1 d (o t).2) = false := by rw [← hn1, ← hn2]; exact hb
            rw [hfx]
            cases hin : inB (hdS (o t).1 d (o t).2) (-1000000) 1000000
            · exact ⟨_, _, _, fun w => l07Next_out _ d _ hok hin w⟩
            · exact ⟨_, _, _, fun w => l07Next_in _ d _ hok hin false hb' w⟩
          have kT : okX d (o (t + 1)) = true → ∀ w, Calls Tryd.prog 48 #[.agg #[.int .i64 (o t).1, .int .i64 d, .int .i64 (o t).2], .int .i64 (tmX d (o t))] w (Ret w (.tuple #[.agg #[.int .i64 (o (t + 1)).1, .int .i64 d, .int .i64 (o (t + 1)).2], .bool true])) := by
            intro hb w
            have hb' : okS (hdS (o t).1 d (o t).2) d (tlS (o t).1 d (o t).2) = true := by rw [← hn1, ← hn2]; exact hb
            have hin : inB (hdS (o t).1 d (o t).2) (-1000000) 1000000 = true := by
              obtain ⟨_, _, q1, q2, _⟩ := okS_bd hb'
              exact inB_iff.2 ⟨q1, q2⟩
            rw [hfx, hn1, hn2]
            exact l07Next_in _ d _ hok hin true hb' w
          rw [← hfx] at kL
          have HTI := Lib.hid hti
          have HOU2 := Lib.hid hou2
          have HBAD := Lib.hid hbad
          clear hti hou2 hbad hn1 hn2 hfx hok hokt
          obtain ⟨b, hb⟩ : ∃ b, okX d (o (t + 1)) = b := ⟨_, rfl⟩
          have HB := Lib.hid hb
          rw [hb] at kF kT
          clear hb
          generalize tmX d (o t) = a at *
          generalize hx' : (o (t + 1)).1 = x' at *
          generalize hy' : (o (t + 1)).2 = y' at *
          have HX' := Lib.hid hx'
          have HY' := Lib.hid hy'
          clear hx' hy'
          generalize (o t).1 = x at *
          generalize (o t).2 = y at *
          have c1 : wr.cell? ⟨w.heap.size, 0, none⟩ = some (.int .i64 x) := hB.cell 0
          have c2 : wr.cell? ⟨w.heap.size, 1, none⟩ = some (.int .i64 d) := hB.cell 1
          have c3 : wr.cell? ⟨w.heap.size, 2, none⟩ = some (.int .i64 y) := hB.cell 2
          go_wp2_with fail
          apply Calls.mono
          · with_reducible exact kL _
          rintro _ w4 ⟨rfl, hb_w4⟩
          have q4 := hb_w4.size
          have hB4 := hB.below hb_w4 (by omega)
          have ho4 := own_below hown hb_w4 (Nat.le_refl _)
          have bel4 : Below w.heap.size w w4 := bthen hbw hb_w4 (by omega)
          obtain ⟨va, vc, rfl⟩ := row_slice ho4
          generalize hvv : Value.ownBlock (.slice va t vc) = vb at *
          have hvl : ∀ k, vb = some k → w.heap.size + 1 ≤ k ∧ k < w4.heap.size := fun k hk => ho4.lt k (hvv.trans hk)
          have HVV := Lib.hid hvv
          clear hvv hown c1 c2 c3 kL
          have KA : ∀ w5, (w4.alloc (.cells #[.int .i64 a] 2)).grownBy w5 (Value.ownBlock (.slice va t vc)) → Blk w5 w.heap.size 28 #[.int .i64 x, .int .i64 d, .int .i64 y] ∧ (w5.cell? ⟨w.heap.size, 0, none⟩ = some (.int .i64 x) ∧ w5.cell? ⟨w.heap.size, 1, none⟩ = some (.int .i64 d) ∧ w5.cell? ⟨w.heap.size, 2, none⟩ = some (.int .i64 y)) ∧ w.heap.size < w5.heap.size ∧ Below w.heap.size w w5 := fun w5 hg => by
            rw [HVV.out] at hg
            have hs := hg.size
            rw [World.size_alloc] at hs
            have g1 := (hB4.alloc (.cells #[.int .i64 a] 2)).grown hg (fun e => by have := (hvl _ e.symm).1; omega)
            exact ⟨g1, ⟨g1.cell 0, g1.cell 1, g1.cell 2⟩, by omega, (bel4.alloc (by omega) _).grown hg (by rw [World.size_alloc]; omega) (fun k hk => by have := (hvl k hk).1; omega)⟩
          by_cases hlast : t + 1 = N
          · have hM := HM1.out (by rw [← hlast]; exact HOU2.out)
            have hle : ((t : Int) + 1 == (N : Int)) = true := by rw [beq_iff_eq]; omega
            have HLAST := Lib.hid hlast
            subst hM
            clear hlast
            go_wp2_with (at_builtin; refine wpList_append_lies _ rfl (.tmp 25) (.tmp 27) 24 rfl (w.heap.size + 1) 2 i1 _ 1 8 Tryd.underlying24 hi1 hy0 hy1 hy2 rfl (by decide) _ t _ rfl (ho4.alloc _) ⟨w4.heap.size, 0, none⟩ 1 1 [.int .i64 a] rfl rfl (World.news_of_block (cs := #[.int .i64 a]) (t := 2) (fr := (0, 0)) (new_at _ (by simp))) (by simp [Value.oneCell']) (by decide) (by simp only [maxLen]; omega) (by omega) (by simp; omega) (w4.heap.size + 1) (by simp) ?_; intro g5 cap5 w5 hown5 hgr5 hat5 hlt5; obtain ⟨f0, ⟨f5, f6, f7⟩, f11, f13⟩ := KA _ hgr5)
            go_ret2
            refine ⟨.slice (some ⟨g5, 0, none⟩) (t + 1) cap5, rfl, ?_, f13⟩
            rw [← ints_snoc, ← HTI.out] at hown5
            simp only [tmL_len]
            rw [← HLAST.out]
            exact own_base hown5 (by omega)
          · have hl1 : t + 1 < N := by omega
            have hle : ((t : Int) + 1 == (N : Int)) = false := by rw [beq_eq_false_iff_ne]; omega
            have HL1 := Lib.hid hl1
            clear hlast hl1
            cases b
            · obtain ⟨a', b', c', kN⟩ := kF rfl
              have hM := HM2.out (HBAD.out HB.out HL1.out)
              subst hM
              clear kF kT
              go_wp2_with (at_builtin; refine wpList_append_lies _ rfl (.tmp 25) (.tmp 27) 24 rfl (w.heap.size + 1) 2 i1 _ 1 8 Tryd.underlying24 hi1 hy0 hy1 hy2 rfl (by decide) _ t _ rfl (ho4.alloc _) ⟨w4.heap.size, 0, none⟩ 1 1 [.int .i64 a] rfl rfl (World.news_of_block (cs := #[.int .i64 a]) (t := 2) (fr := (0, 0)) (new_at _ (by simp))) (by simp [Value.oneCell']) (by decide) (by simp only [maxLen]; omega) (by omega) (by simp; omega) (w4.heap.size + 1) (by simp) ?_; intro g5 cap5 w5 hown5 hgr5 hat5 hlt5; obtain ⟨f0, ⟨f5, f6, f7⟩, f11, f13⟩ := KA _ hgr5)
              apply Calls.mono
              · with_reducible exact kN _
              rintro _ w6 ⟨rfl, hb_w6⟩
              have bel6 := bthen f13 hb_w6 (by omega)
              have q6 := hb_w6.size
              go_wp2
              go_ret2
              exact ⟨_, rfl, World.ownsRow_nil _ _ _ _, bel6.alloc (by omega) _⟩
            · have kN := kT rfl
              clear kF kT
              go_wp2_with (at_builtin; refine wpList_append_lies _ rfl (.tmp 25) (.tmp 27) 24 rfl (w.heap.size + 1) 2 i1 _ 1 8 Tryd.underlying24 hi1 hy0 hy1 hy2 rfl (by decide) _ t _ rfl (ho4.alloc _) ⟨w4.heap.size, 0, none⟩ 1 1 [.int .i64 a] rfl rfl (World.news_of_block (cs := #[.int .i64 a]) (t := 2) (fr := (0, 0)) (new_at _ (by simp))) (by simp [Value.oneCell']) (by decide) (by simp only [maxLen]; omega) (by omega) (by simp; omega) (w4.heap.size + 1) (by simp) ?_; intro g5 cap5 w5 hown5 hgr5 hat5 hlt5; obtain ⟨f0, ⟨f5, f6, f7⟩, f11, f13⟩ := KA _ hgr5)
              apply Calls.mono
              · with_reducible exact kN _
              rintro _ w6 ⟨rfl, hb_w6⟩
              have q6 := hb_w6.size
              have f0 := f0.below hb_w6 f11
              have f5 : w6.cell? ⟨w.heap.size, 0, none⟩ = some (.int .i64 x) := f0.cell 0
              have f6 : w6.cell? ⟨w.heap.size, 1, none⟩ = some (.int .i64 d) := f0.cell 1
              have f7 : w6.cell? ⟨w.heap.size, 2, none⟩ = some (.int .i64 y) := f0.cell 2
              have f8 : w6.frozen? ⟨w.heap.size, 0, none⟩ = false := f0.frozen 0
              have f9 : w6.frozen? ⟨w.heap.size, 1, none⟩ = false := f0.frozen 1
              have f10 : w6.frozen? ⟨w.heap.size, 2, none⟩ = false := f0.frozen 2
              have f11' : w.heap.size < w6.heap.size := by omega
              have ho6 := own_below hown5 hb_w6 (Nat.le_refl _)
              have bel6 := bthen f13 hb_w6 (by omega)
              go_wp2
              go_roundg (gk - 1)
              case measure => omega
              case rel =>
                have ne1 : Value.ownBlock (.slice (some ⟨g5, 0, none⟩) (t + 1) cap5) ≠ some w.heap.size := fun e => by have := (ho6.lt _ e).1; omega
                rw [← ints_snoc, ← HTI.out] at ho6
                have hl1 := HL1.out
                refine ⟨t + 1, Or.inl hl1, by omega, by go_num, fun _ => HB.out, HOU2.out, ?_, ?_, ?_, ?_⟩
                · exact (own_far (p := ⟨w.heap.size, 2, none⟩) (own_far (p := ⟨w.heap.size, 1, none⟩) (own_far (p := ⟨w.heap.size, 0, none⟩) ho6 ne1 _) ne1 _) ne1 _).alloc _
                · rw [HX'.out, HY'.out]; exact (f0.set3 _ _ _).alloc _
                · repeat' (first | (with_reducible exact Below.refl _ _) | (with_reducible assumption) | (with_reducible refine Below.alloc ?_ ?_ _) | (with_reducible refine Below.drew ?_) | (with_reducible refine bdrewN ?_ _) | (with_reducible refine Below.setCell ?_ ?_ _) | (with_reducible refine bthen ?_ (by assumption) ?_) | go_size)
                · simp; omega
        · obtain ⟨rfl, rfl⟩ : t = 0 ∧ N = 0 := by omega
          have hM := HM1.out hou
          subst hM
          go_wp2
          go_ret2
          refine ⟨_, rfl, ?_, hbw⟩
          simp only [hl]
          exact own_base hown (by omega)
end Go.Proofs.YtibbokllongomaaDoor
