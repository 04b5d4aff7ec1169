/-
  The walk along the surds of a surd: the program's way, with its map.
-/
import Derived.Test.YtibbokllongomaaDoorWk
namespace Go.Proofs.YtibbokllongomaaDoor
open Go.RowKit Go.Maps

theorem zeroInt (w : World) : (zeroValue 3).run Tryd.prog w = .ok (.int .i64 0) w := by kernel_rfl
theorem plain_nat (n : Nat) (h : n ≤ 1000) : plainElem (H := Unit) Tryd.prog 3 (.int .i64 n) = some (.lit (.int .i64 n), []) := plainElem_int Tryd.underlying3 (wf_small (by omega) (by omega))
theorem map_below {w w' : World} {P : Program} {k : TypeId} {R : Value → Option (DataW Unit × List MemPlace)} {b n B : Nat} {D : DataW Unit} (h : w.ownsMap P k R b n D) (hb : Below B w w') (hB : b < B) : w'.ownsMap P k R b n D := by
  obtain ⟨es, clock, h1, h2⟩ := h
  exact ⟨es, clock, (hb.block _ hB).trans h1, h2⟩
theorem row_slice {w : World} {base size n : Nat} {e : TypeId} {v : Value} {xs : List Value} (h : w.ownsRow base e size v n xs) : ∃ a c, v = .slice a n c := by
  rcases h.2 with ⟨rfl, rfl⟩ | ⟨g, cap, cur, rfl, _⟩
  · exact ⟨_, _, rfl⟩
  · exact ⟨_, _, rfl⟩
theorem lit_inj {a b : Int} {z : DataW Unit} (h1 : z = .lit (.int .i64 a)) (h2 : z = .lit (.int .i64 b)) : a = b := by
  rw [h1] at h2
  injection h2 with h2
  injection h2
def SurdR (w : World) (d : Int) (o : Nat → Int × Int) (r : Option (Nat × Nat)) (k : Nat) (v : Value) (wr : World) : Prop :=
  ∃ n : Nat, n ≤ 400 ∧ n + k = 401 ∧ wkF d o k n = r ∧ (∀ i, i ≤ n → okX d (o i) = true) ∧ (∀ a b, a < b → b < n → o a ≠ o b) ∧ wr.ownsRow (w.heap.size + 1 + 1) 28 3 v n (srd d (osn o n)) ∧
    Blk wr w.heap.size 28 #[.int .i64 (o n).1, .int .i64 d, .int .i64 (o n).2] ∧ wr.ownsMap Tryd.prog 28 (plainElem Tryd.prog 3) (w.heap.size + 1) n (mpX d o n) ∧ Below w.heap.size w wr ∧ w.heap.size + 1 + 1 ≤ wr.heap.size
def SurdsP (w : World) (d : Int) (o : Nat → Int × Int) (r : Option (Nat × Nat)) (e : Ending) (w' : World) : Prop :=
  (∃ j n v, r = some (j, n) ∧ e = .returned (.tuple #[v, .int .i64 (j : Nat), .bool true]) ∧ w'.ownsRow w.heap.size 28 3 v n (srd d (osn o n)) ∧ Below w.heap.size w w') ∨
  (r = none ∧ e = .returned (.tuple #[.slice none 0 0, .int .i64 0, .bool false]) ∧ Below w.heap.size w w')
set_option maxHeartbeats 4000000 in
set_option maxRecDepth 100000 in
theorem surdsOf_any (p d q : Int) (h : okS p d q = true) (w : World) :
    Calls Tryd.prog 138 #[.agg #[.int .i64 p, .int .i64 d, .int .i64 q]] w (SurdsP w d (orb d (p, q)) (wk d (p, q))) := by
  have hmm := @run_makeMap Tryd.prog
  obtain ⟨i0, hi0, hz0, hz1, hz2⟩ := info_parts Tryd.infoS
  have ho : ∀ n, orb d (p, q) (n + 1) = nxt d (orb d (p, q) n) := fun n => rfl
  have h0 : okX d (orb d (p, q) 0) = true := h
  have hr : wkF d (orb d (p, q)) 401 0 = wk d (p, q) := rfl
  have e0 : orb d (p, q) 0 = (p, q) := rfl
  generalize wk d (p, q) = r at *
  generalize orb d (p, q) = o at *
  have HO := Lib.hid ho
  have H0 := Lib.hid h0
  have HR := Lib.hid hr
  have E0 := Lib.hid e0
  clear ho h0 hr e0 h
  go_enter Tryd.func138, Tryd.ntmps138
  go_wp2_with fail
  go_loopg [5] 401 (SurdR w d o r)
  case atStart =>
    refine ⟨0, by omega, by omega, HR.out, ?_, ?_, ?_, ?_, ?_, ?_, ?_⟩
    · intro i hi
      obtain rfl : i = 0 := by omega
      exact H0.out
    · intro a b _ hb; omega
    · exact World.ownsRow_nil _ _ _ _
    · rw [E0.out]; exact (Blk.new w _ _).alloc _
    · have hm := World.ownsMap_made (H := Unit) (w.alloc (.cells #[.int .i64 p, .int .i64 d, .int .i64 q] 28)) Tryd.prog 28 (plainElem Tryd.prog 3)
      rw [World.size_alloc] at hm
      exact hm
    · repeat' (first | (with_reducible exact Below.refl _ _) | (with_reducible assumption) | (with_reducible refine Below.alloc ?_ ?_ _) | (with_reducible refine Below.drew ?_) | (with_reducible refine bdrewN ?_ _) | (with_reducible refine Below.setCell ?_ ?_ _) | (with_reducible refine bthen ?_ (by assumption) ?_) | go_size)
    · simp
  case round =>
    obtain ⟨n, hn, hnk, hwk, hok, hap, hown, hB, hmap, hbw, hsz⟩ := hrel
    obtain ⟨k, rfl⟩ : ∃ k, gk = k + 1 := ⟨gk - 1, by omega⟩
    have hokn := hok n (Nat.le_refl _)
    have hkey := key_x hokn
    have hfm := mp_find (z := .lit (.int .i64 0)) hokn n (fun i hi => hok i (by omega)) hap
    have c1 : wr.cell? ⟨w.heap.size, 0, none⟩ = some (.int .i64 (o n).1) := hB.cell 0
    have c2 : wr.cell? ⟨w.heap.size, 1, none⟩ = some (.int .i64 d) := hB.cell 1
    have c3 : wr.cell? ⟨w.heap.size, 2, none⟩ = some (.int .i64 (o n).2) := hB.cell 2
    have hvn : ∀ b, b < w.heap.size + 1 + 1 → some b ≠ u5.ownBlock := fun b hb e => by have := (hown.lt b e.symm).1; omega
    obtain ⟨va, vc, rfl⟩ := row_slice hown
    generalize hvv : Value.ownBlock (.slice va n vc) = vb at *
    have HVV := Lib.hid hvv
    clear hvv
    have HOK := Lib.hid hok
    have HAP := Lib.hid hap
    clear hok hap
    cases hf : fnd o (o n) n with
    | some j =>
      obtain ⟨hj, _⟩ := fnd_some hf
      have hw : r = some (j, n) := hwk.symm.trans (wkF_hit hf)
      obtain ⟨hh, hat0⟩ := hfm.1 j hf
      have HW := Lib.hid hw
      clear hfm hwk hf hw
      generalize (o n).1 = x at *
      generalize (o n).2 = y at *
      go_wp2_with (at_lookup; refine wpList_lookup_own_ok_int _ rfl _ _ 176 rfl 28 3 .i64 lawS Tryd.underlying176 Tryd.underlying3 (zeroInt _) (w.heap.size + 1) n _ rfl hmap _ _ rfl hkey ?_; intro c hat hwc; obtain rfl : c = ((j : Nat) : Int) := lit_inj hat hat0)
      go_ret3
      exact Or.inl ⟨j, n, _, HW.out, rfl, own_base hown (by omega), hbw⟩
    | none =>
      have hh := hfm.2 hf
      by_cases hn4 : n = 400
      · have hw : r = none := hwk.symm.trans (wkF_end hf hn4)
        have HW := Lib.hid hw
        clear hfm hwk hf hw
        generalize (o n).1 = x at *
        generalize (o n).2 = y at *
        have hn4' : ((n : Int) == 400) = true := by rw [beq_iff_eq]; omega
        clear hn4 hn hnk
        go_wp2_with (at_lookup; refine wpList_lookup_own_ok_int _ rfl _ _ 176 rfl 28 3 .i64 lawS Tryd.underlying176 Tryd.underlying3 (zeroInt _) (w.heap.size + 1) n _ rfl hmap _ _ rfl hkey ?_; intro c hat hwc)
        go_ret3
        exact Or.inr ⟨HW.out, rfl, hbw⟩
      · have hn4' : ((n : Int) == 400) = false := by rw [beq_eq_false_iff_ne]; omega
        have hnx := HO.out n
        have hcell : (o (n + 1)).1 = hdS (o n).1 d (o n).2 ∧ (o (n + 1)).2 = tlS (o n).1 d (o n).2 := by rw [hnx]; exact ⟨rfl, rfl⟩
        obtain ⟨hc1, hc2⟩ := hcell
        have hap2 : ∀ a b, a < b → b < n + 1 → o a ≠ o b := by
          intro a b hab hb
          rcases Nat.lt_or_ge b n with g | g
          · exact HAP.out a b hab g
          · obtain rfl : b = n := by omega
            exact fnd_none hf a hab
        have hsn : srd d (osn o (n + 1)) = srd d (osn o n) ++ [.int .i64 (o n).1, .int .i64 d, .int .i64 (o n).2] := by rw [osn_succ, srd_snoc]
        have hmp : mpX d o (n + 1) = (mpX d o n).put (klS (o n).1 d (o n).2) (.lit (.int .i64 n)) := rfl
        have HSN := Lib.hid hsn
        have HMP := Lib.hid hmp
        have HAP2 := Lib.hid hap2
        have HC1 := Lib.hid hc1
        have HC2 := Lib.hid hc2
        have KO : ∀ w1, wr.grownBy w1 (some (w.heap.size + 1)) → w1.ownsRow (w.heap.size + 1 + 1) 28 3 (.slice va n vc) n (srd d (osn o n)) := fun w1 hg => hown.kept hg (Or.inr (by rw [HVV.out]; exact (hvn _ (by omega)).symm))
        have KB : ∀ w1, wr.grownBy w1 (some (w.heap.size + 1)) → Blk w1 w.heap.size 28 #[.int .i64 (o n).1, .int .i64 d, .int .i64 (o n).2] ∧ w1.cell? ⟨w.heap.size, 0, none⟩ = some (.int .i64 (o n).1) ∧ w1.cell? ⟨w.heap.size, 1, none⟩ = some (.int .i64 d) ∧ w1.cell? ⟨w.heap.size, 2, none⟩ = some (.int .i64 (o n).2) ∧ w.heap.size + 1 + 1 ≤ w1.heap.size ∧ w.heap.size < w1.heap.size := fun w1 hg => by
          have hb := hB.grown hg (by simp)
          have hs := hg.size
          exact ⟨hb, hb.cell 0, hb.cell 1, hb.cell 2, by omega, by omega⟩
        have KC : ∀ w1 w2, wr.grownBy w1 (some (w.heap.size + 1)) → (w1.alloc (.cells #[.int .i64 (o n).1, .int .i64 d, .int .i64 (o n).2] 28)).grownBy w2 (Value.ownBlock (.slice va n vc)) → Blk w2 w.heap.size 28 #[.int .i64 (o n).1, .int .i64 d, .int .i64 (o n).2] ∧ w2.cell? ⟨w.heap.size, 0, none⟩ = some (.int .i64 (o n).1) ∧ w2.cell? ⟨w.heap.size, 1, none⟩ = some (.int .i64 d) ∧ w2.cell? ⟨w.heap.size, 2, none⟩ = some (.int .i64 (o n).2) ∧ w.heap.size + 1 + 1 ≤ w2.heap.size ∧ w.heap.size < w2.heap.size := fun w1 w2 hg hg2 => by
          obtain ⟨hb, _, _, _, hs, _⟩ := KB w1 hg
          have hb2 := (hb.alloc (.cells #[.int .i64 (o n).1, .int .i64 d, .int .i64 (o n).2] 28)).grown hg2 (by rw [HVV.out]; exact hvn _ (by omega))
          have hs2 := hg2.size
          rw [World.size_alloc] at hs2
          exact ⟨hb2, hb2.cell 0, hb2.cell 1, hb2.cell 2, by omega, by omega⟩
        cases hb : okX d (o (n + 1))
        · have hw : r = none := hwk.symm.trans (wkF_bad hf hb)
          have HW := Lib.hid hw
          have hb' : okS (hdS (o n).1 d (o n).2) d (tlS (o n).1 d (o n).2) = false := by rw [← HC1.out, ← HC2.out]; exact hb
          have kN := fun w => nextSurd_any (o n).1 d (o n).2 hokn false hb' w
          clear hfm hwk hf hw hc1 hc2 hsn hmp hap2 hnx hb hb'
          generalize (o n).1 = x at *
          generalize (o n).2 = y at *
          go_wp2_with (first
            | (at_lookup; refine wpList_lookup_own_ok_int _ rfl _ _ 176 rfl 28 3 .i64 lawS Tryd.underlying176 Tryd.underlying3 (zeroInt _) (w.heap.size + 1) n _ rfl hmap _ _ rfl hkey ?_; intro c hat hwc)
            | (at_mapUpdate; refine wpList_mapUpdate_own _ rfl _ _ _ 176 rfl 28 3 lawS Tryd.underlying176 _ (w.heap.size + 1) n _ rfl hmap (by unfold maxLen; omega) _ _ _ rfl rfl hkey _ [] (plain_nat n (by omega)) ?_; intro w1 hmap1 hgr1; obtain ⟨b0, b1, b2, b3, s1, s2⟩ := KB _ hgr1)
            | (at_builtin; refine wpList_append_own_at _ rfl (.tmp 29) (.tmp 31) 128 rfl (w.heap.size + 1 + 1) 28 i0 _ 3 24 Tryd.underlying128 hi0 hz0 hz1 hz2 rfl (by decide) _ n (srd d (osn o n)) rfl ((KO _ hgr1).alloc _) ⟨w1.heap.size, 0, none⟩ 1 1 [.int .i64 x, .int .i64 d, .int .i64 y] rfl rfl (World.news_of_block (cs := #[.int .i64 x, .int .i64 d, .int .i64 y]) (t := 28) (fr := (0, 0)) (heap_alloc_new w1 _)) (by simp [Value.oneCell']) (by simp only [maxLen]; omega) (by omega) (by simp; omega) ?_; intro v2 w2 hown2 hgr2 _ hat2; obtain ⟨d0, d1, d2, d3, s3, s4⟩ := KC _ _ hgr1 hgr2))
          apply Calls.mono
          · with_reducible exact kN _
          rintro _ w3 ⟨rfl, hb_w3⟩
          have G2 : (w1.alloc (.cells #[.int .i64 x, .int .i64 d, .int .i64 y] 28)).grownBy w2 vb := by rw [← HVV.out]; exact hgr2
          have q1 := hgr1.size
          have q2 := G2.size
          rw [World.size_alloc] at q2
          have bel1 : Below w.heap.size w w1 := hbw.grown hgr1 (by omega) (fun k hk => by injection hk with hk; omega)
          have bel2 : Below w.heap.size w w2 := (bel1.alloc (by omega) _).grown G2 (by rw [World.size_alloc]; omega) (fun k hk => by have := (hown.lt k (HVV.out.trans hk)).1; omega)
          have bel3 : Below w.heap.size w w3 := bthen bel2 hb_w3 (by omega)
          have q3 := hb_w3.size
          go_wp2
          go_ret3
          refine Or.inr ⟨HW.out, rfl, ?_⟩
          repeat' (first | (with_reducible exact Below.refl _ _) | (with_reducible assumption) | (with_reducible refine Below.alloc ?_ ?_ _) | (with_reducible refine Below.drew ?_) | (with_reducible refine bdrewN ?_ _) | (with_reducible refine Below.setCell ?_ ?_ _) | (with_reducible refine bthen ?_ (by assumption) ?_) | go_size)
        · have hw : wkF d o k (n + 1) = r := (wkF_on hf hn4 hb).symm.trans hwk
          have HW := Lib.hid hw
          have hb' : okS (hdS (o n).1 d (o n).2) d (tlS (o n).1 d (o n).2) = true := by rw [← HC1.out, ← HC2.out]; exact hb
          have HB := Lib.hid hb
          have kN := fun w => nextSurd_any (o n).1 d (o n).2 hokn true hb' w
          rw [← HC1.out, ← HC2.out] at kN
          clear hfm hwk hf hw hc1 hc2 hsn hmp hap2 hnx hb hb' HC1 HC2
          generalize hx' : (o (n + 1)).1 = x' at *
          generalize hy' : (o (n + 1)).2 = y' at *
          have HX' := Lib.hid hx'
          have HY' := Lib.hid hy'
          clear hx' hy'
          generalize (o n).1 = x at *
          generalize (o n).2 = y at *
          go_wp2_with (first
            | (at_lookup; refine wpList_lookup_own_ok_int _ rfl _ _ 176 rfl 28 3 .i64 lawS Tryd.underlying176 Tryd.underlying3 (zeroInt _) (w.heap.size + 1) n _ rfl hmap _ _ rfl hkey ?_; intro c hat hwc)
            | (at_mapUpdate; refine wpList_mapUpdate_own _ rfl _ _ _ 176 rfl 28 3 lawS Tryd.underlying176 _ (w.heap.size + 1) n _ rfl hmap (by unfold maxLen; omega) _ _ _ rfl rfl hkey _ [] (plain_nat n (by omega)) ?_; intro w1 hmap1 hgr1; obtain ⟨b0, b1, b2, b3, s1, s2⟩ := KB _ hgr1)
            | (at_builtin; refine wpList_append_own_at _ rfl (.tmp 29) (.tmp 31) 128 rfl (w.heap.size + 1 + 1) 28 i0 _ 3 24 Tryd.underlying128 hi0 hz0 hz1 hz2 rfl (by decide) _ n (srd d (osn o n)) rfl ((KO _ hgr1).alloc _) ⟨w1.heap.size, 0, none⟩ 1 1 [.int .i64 x, .int .i64 d, .int .i64 y] rfl rfl (World.news_of_block (cs := #[.int .i64 x, .int .i64 d, .int .i64 y]) (t := 28) (fr := (0, 0)) (heap_alloc_new w1 _)) (by simp [Value.oneCell']) (by simp only [maxLen]; omega) (by omega) (by simp; omega) ?_; intro v2 w2 hown2 hgr2 _ hat2; obtain ⟨d0, d1, d2, d3, s3, s4⟩ := KC _ _ hgr1 hgr2))
          apply Calls.mono
          · with_reducible exact kN _
          rintro _ w3 ⟨rfl, hb_w3⟩
          have G2 : (w1.alloc (.cells #[.int .i64 x, .int .i64 d, .int .i64 y] 28)).grownBy w2 vb := by rw [← HVV.out]; exact hgr2
          have q1 := hgr1.size
          have q2 := G2.size
          rw [World.size_alloc] at q2
          have bel1 : Below w.heap.size w w1 := hbw.grown hgr1 (by omega) (fun k hk => by injection hk with hk; omega)
          have bel2 : Below w.heap.size w w2 := (bel1.alloc (by omega) _).grown G2 (by rw [World.size_alloc]; omega) (fun k hk => by have := (hown.lt k (HVV.out.trans hk)).1; omega)
          have bel3 : Below w.heap.size w w3 := bthen bel2 hb_w3 (by omega)
          have q3 := hb_w3.size
          have hB3 := d0.below hb_w3 s4
          have c1 : w3.cell? ⟨w.heap.size, 0, none⟩ = some (.int .i64 x) := hB3.cell 0
          have c2 : w3.cell? ⟨w.heap.size, 1, none⟩ = some (.int .i64 d) := hB3.cell 1
          have c3 : w3.cell? ⟨w.heap.size, 2, none⟩ = some (.int .i64 y) := hB3.cell 2
          have f1 : w3.frozen? ⟨w.heap.size, 0, none⟩ = false := hB3.frozen 0
          have f2 : w3.frozen? ⟨w.heap.size, 1, none⟩ = false := hB3.frozen 1
          have f3 : w3.frozen? ⟨w.heap.size, 2, none⟩ = false := hB3.frozen 2
          have s5 : w.heap.size < w3.heap.size := Nat.lt_of_lt_of_le s4 hb_w3.size
          go_wp2
          go_roundg k
          case measure => omega
          case rel =>
            have o3 := own_below hown2 hb_w3 (Nat.le_refl _)
            rw [← HSN.out] at o3
            have ne1 : v2.ownBlock ≠ some w.heap.size := fun e => by have := (hown2.lt _ e).1; omega
            have ne2 : some (w.heap.size + 1) ≠ vb := hvn _ (by omega)
            have m3 := map_below ((hmap1.alloc (.cells #[.int .i64 x, .int .i64 d, .int .i64 y] 28)).kept G2 ne2) hb_w3 (by omega)
            rw [← HMP.out] at m3
            refine ⟨n + 1, by omega, by omega, HW.out, ?_, HAP2.out, ?_, ?_, ?_, ?_, ?_⟩
            · intro i hi
              rcases Nat.lt_or_ge n i with g | g
              · obtain rfl : i = n + 1 := by omega
                exact HB.out
              · exact HOK.out i g
            · exact (own_far (p := ⟨w.heap.size, 2, none⟩) (own_far (p := ⟨w.heap.size, 1, none⟩) (own_far (p := ⟨w.heap.size, 0, none⟩) o3 ne1 _) ne1 _) ne1 _).alloc _
            · rw [HX'.out, HY'.out]; exact (hB3.set3 _ _ _).alloc _
            · exact (((m3.setCell (a := ⟨w.heap.size, 0, none⟩) (by simp) _).setCell (a := ⟨w.heap.size, 1, none⟩) (by simp) _).setCell (a := ⟨w.heap.size, 2, none⟩) (by simp) _).alloc _
            · repeat' (first | (with_reducible exact Below.refl _ _) | (with_reducible assumption) | (with_reducible refine Below.alloc ?_ ?_ _) | (with_reducible refine Below.drew ?_) | (with_reducible refine bdrewN ?_ _) | (with_reducible refine Below.setCell ?_ ?_ _) | (with_reducible refine bthen ?_ (by assumption) ?_) | go_size)
            · simp; omega
end Go.Proofs.YtibbokllongomaaDoor
