/-
  All convergents: the reference's way.
-/
import Derived.Test.YtlmmpeeacjbobaaCnv
import Derived.Test.YtlmmpeeacjbobaaEx2
import Derived.Test.YtlmmpeeacjbobaaFr
namespace Go.Proofs.Ytlmmpeeacjbobaa
open Go.RowKit

theorem own_litF (w : World) (e : TypeId) : (w.alloc (.cells #[] e)).ownsRow w.heap.size e 2 (.slice (some ⟨w.heap.size, 0, none⟩) 0 0) 0 [] :=
  World.ownsRow_lit w #[] 0 (Nat.le_refl _) (by simp [maxLen]) (by simp)
theorem l03New_c (w : World) : Calls Try.prog 124 #[] w (Ret w (.agg #[.int .i64 1, .int .i64 0, .int .i64 0, .int .i64 1])) := by
  go_enter Try.func124, Try.ntmps124
  go_wp2
  refine bodyPost_ret (by simp [results, Try.results124, go_sem, *]; try rfl) rfl ?_
  refine ⟨by first | rfl | simp, ?_⟩
  repeat' (first | (with_reducible exact Below.refl _ _) | (with_reducible assumption) | (with_reducible refine Below.alloc ?_ ?_ _) | (with_reducible refine Below.drew ?_) | (with_reducible refine bdrewN ?_ _) | (with_reducible refine Below.setCell ?_ ?_ _) | (with_reducible refine bthen ?_ (by assumption) ?_) | go_size)
set_option maxHeartbeats 1000000 in
theorem next_c (p q pp qq t : Int) (h1 : -1000000000 ≤ p) (h2 : p ≤ 1000000000) (h3 : -1000000000 ≤ q) (h4 : q ≤ 1000000000) (h5 : -1000000000 ≤ pp) (h6 : pp ≤ 1000000000) (h7 : -1000000000 ≤ qq) (h8 : qq ≤ 1000000000) (h9 : -1000000000 ≤ t) (h10 : t ≤ 1000000000) (x y : Int) (hx : t * p + pp = x) (hy : t * q + qq = y) (w : World) :
    Calls Try.prog 125 #[.agg #[.int .i64 p, .int .i64 q, .int .i64 pp, .int .i64 qq], .int .i64 t] w (Ret w (.agg #[.int .i64 x, .int .i64 y, .int .i64 p, .int .i64 q])) := by
  obtain ⟨m3, m4⟩ := mulb h9 h10 h1 h2
  obtain ⟨m5, m6⟩ := mulb h9 h10 h3 h4
  subst hx hy
  go_enter Try.func125, Try.ntmps125
  go_wp2
  refine bodyPost_ret (by simp [results, Try.results125, go_sem, *]; try rfl) rfl ?_
  refine ⟨by first | rfl | simp, ?_⟩
  repeat' (first | (with_reducible exact Below.refl _ _) | (with_reducible assumption) | (with_reducible refine Below.alloc ?_ ?_ _) | (with_reducible refine Below.drew ?_) | (with_reducible refine bdrewN ?_ _) | (with_reducible refine Below.setCell ?_ ?_ _) | (with_reducible refine bthen ?_ (by assumption) ?_) | go_size)
def CcR (w : World) (B G : Nat) (zs : List Int) (n : Nat) (k : Nat) (v i : Value) (wr : World) : Prop :=
  ∃ j : Nat, j ≤ n ∧ n ≤ j + k ∧ i = .int .i64 j ∧ fitN zs j = true ∧
    Blk wr G 104 #[.int .i64 (mtx (zs.take j)).1.1, .int .i64 (mtx (zs.take j)).1.2, .int .i64 (mtx (zs.take j)).2.1, .int .i64 (mtx (zs.take j)).2.2] ∧
    wr.ownsRow B 24 2 v j (prc (cvl zs j)) ∧ v.ownBlock ≠ some G ∧ Below B w wr
set_option maxHeartbeats 2000000 in
set_option maxRecDepth 100000 in
theorem l03Convergents_any (v : Value) (n : Nat) (zs : List Int) (w : World) (hv : Rd w 1 v n (ints zs)) (ht : tmsB zs = true) : Calls Try.prog 105 #[v] w (CvP w zs) := by
  obtain ⟨i0, hi0, hz0, hz1, hz2⟩ := info_parts Try.infoFq
  have hl : zs.length = n := by have := (rd_len hv).1; rw [ints_len] at this; omega
  have hn60 : n ≤ 60 := by have := (tms_iff.1 ht).1; omega
  obtain ⟨A, c, rfl, hn1, hc1, _, hr1⟩ := hv
  have R1 := Lib.hid hr1
  have HL := Lib.hid hl
  have HT := Lib.hid ht
  clear hr1 hl ht
  go_enter Try.func105, Try.ntmps105
  go_wp2_with fail
  apply Calls.mono
  · with_reducible exact l03New_c _
  rintro _ w1 ⟨rfl, hb_w1⟩
  have bel1 : Below w.heap.size w w1 := bthen ((Below.refl _ _).alloc (Nat.le_refl _) _) hb_w1 (by rw [World.size_alloc]; omega)
  have own1 := own_below (own_litF w 24) hb_w1 (by rw [World.size_alloc]; exact Nat.le_refl _)
  have z1 := hb_w1.size
  rw [World.size_alloc] at z1
  have hC := Blk.new w1 104 #[.int .i64 1, .int .i64 0, .int .i64 0, .int .i64 1]
  have B1 := Lib.hid bel1
  have O1 := Lib.hid own1
  have C1 := Lib.hid hC
  clear bel1 own1 hC hb_w1
  go_wp2_with fail
  go_loopg [4, 6] n (fun k v i wr => CcR w w.heap.size w1.heap.size zs n k v i wr)
  case atStart =>
    exact ⟨0, by omega, by omega, rfl, rfl, C1.out, by simpa [prc, cvl] using O1.out.alloc _, fun e => by have e : some w.heap.size = some w1.heap.size := e; injection e with e; omega, B1.out.alloc B1.out.size _⟩
  case round =>
    obtain ⟨j, hj1, hj2, rfl, hfit, hB, hown, hne, hbw⟩ := hrel
    have hs := hbw.size
    by_cases hjn : j < n
    · obtain ⟨t, hz⟩ := get_ex (l := zs) (k := j) (by have := HL.out; omega)
      rcases R1.out with h0 | ⟨g, o, rfl, hg, hcell⟩
      · omega
      have c1 : wr.cell? ⟨g, o + j, none⟩ = some (.int .i64 t) := (hbw.cell (p := ⟨g, o + j, none⟩) hg).trans (hcell j _ (ints_get hz))
      have hgw : g < wr.heap.size := by omega
      have hjn' : (j : Int) < (n : Int) := by omega
      obtain ⟨t1, t2⟩ := tms_get HT.out hz
      obtain ⟨⟨b1, b2⟩, ⟨b3, b4⟩, ⟨b5, b6⟩, ⟨b7, b8⟩⟩ := cfit_bd (fit_last zs) hfit (by rw [HL.out]; omega)
      have hM : mtx (zs.take (j + 1)) = mtS (mtx (zs.take j)) t := by rw [take_snoc hz, mtx_snoc]
      have hok : okF (mtx (zs.take (j + 1))).1.1 (mtx (zs.take (j + 1))).1.2 = fitE (mtx (zs.take (j + 1))) := by
        refine okF_fit ?_ ?_
        · rw [take_snoc hz]; simp
        · intro s hs
          rw [List.drop_take] at hs
          exact ((tms_iff.1 HT.out).2.2 s (List.mem_of_mem_take hs)).1
      have hsuc := cvl_succ zs j
      have hfs : fitN zs (j + 1) = (fitN zs j && fitE (mtx (zs.take (j + 1)))) := rfl
      rw [hfit, Bool.true_and] at hfs
      have hbad : fitE (mtx (zs.take (j + 1))) = false → fitL zs = false := fun e => fitN_bad e (by rw [HL.out]; exact hjn)
      rw [← hfs] at hok hbad
      have hX : t * (mtx (zs.take j)).1.1 + (mtx (zs.take j)).2.1 = (mtx (zs.take (j + 1))).1.1 := by rw [hM]; rfl
      have hY : t * (mtx (zs.take j)).1.2 + (mtx (zs.take j)).2.2 = (mtx (zs.take (j + 1))).1.2 := by rw [hM]; rfl
      have hP : (mtx (zs.take (j + 1))).2.1 = (mtx (zs.take j)).1.1 := by rw [hM]; rfl
      have hQ : (mtx (zs.take (j + 1))).2.2 = (mtx (zs.take j)).1.2 := by rw [hM]; rfl
      have kN := fun w => next_c (mtx (zs.take j)).1.1 (mtx (zs.take j)).1.2 (mtx (zs.take j)).2.1 (mtx (zs.take j)).2.2 t b1 b2 b3 b4 b5 b6 b7 b8 t1 t2 _ _ hX hY w
      have x1 : -2000000000000000000 ≤ (mtx (zs.take (j + 1))).1.1 ∧ (mtx (zs.take (j + 1))).1.1 ≤ 2000000000000000000 := by have := mulb t1 t2 b1 b2; omega
      have y1 : -2000000000000000000 ≤ (mtx (zs.take (j + 1))).1.2 ∧ (mtx (zs.take (j + 1))).1.2 ≤ 2000000000000000000 := by have := mulb t1 t2 b3 b4; omega
      have kV := fun w => l02Ok_any (mtx (zs.take (j + 1))).1.1 (mtx (zs.take (j + 1))).1.2 _ hok w
      have HP := Lib.hid hP
      have HQ := Lib.hid hQ
      have HS := Lib.hid hsuc
      have HO := Lib.hid hown
      have HBW := Lib.hid hbw
      have HBD := Lib.hid hbad
      have HNE := Lib.hid hne
      have lB := hB.lt
      have e0 : wr.cell? ⟨w1.heap.size, 0, none⟩ = some (.int .i64 (mtx (zs.take j)).1.1) := hB.cell 0
      have e1 : wr.cell? ⟨w1.heap.size, 1, none⟩ = some (.int .i64 (mtx (zs.take j)).1.2) := hB.cell 1
      have e2 : wr.cell? ⟨w1.heap.size, 2, none⟩ = some (.int .i64 (mtx (zs.take j)).2.1) := hB.cell 2
      have e3 : wr.cell? ⟨w1.heap.size, 3, none⟩ = some (.int .i64 (mtx (zs.take j)).2.2) := hB.cell 3
      have KB : ∀ w9, Below wr.drew.heap.size wr.drew w9 → Blk w9 w1.heap.size 104 #[.int .i64 (mtx (zs.take j)).1.1, .int .i64 (mtx (zs.take j)).1.2, .int .i64 (mtx (zs.take j)).2.1, .int .i64 (mtx (zs.take j)).2.2] ∧ Below wr.heap.size wr w9 := fun w9 hb => ⟨hB.drew.below hb lB, bthen (Below.refl _ _).drew hb (Nat.le_refl _)⟩
      have nB : g ≠ w1.heap.size := by omega
      clear hz hcell R1 hM hX hY hP hQ hsuc hown hbw hfit hok hbad hne hB b1 b2 b3 b4 b5 b6 b7 b8
      generalize hX' : (mtx (zs.take (j + 1))).1.1 = X at *
      generalize hY' : (mtx (zs.take (j + 1))).1.2 = Y at *
      have HX' := Lib.hid hX'
      have HY' := Lib.hid hY'
      clear hX' hY'
      generalize (mtx (zs.take j)).1.1 = p at *
      generalize (mtx (zs.take j)).1.2 = q at *
      generalize (mtx (zs.take j)).2.1 = p0 at *
      generalize (mtx (zs.take j)).2.2 = q0 at *
      go_wp2_with fail
      go_region_with (go_at_call 125; refine (kN _).mono ?_; rintro _ w9 ⟨rfl, hb_w9⟩; obtain ⟨KB1, KB3⟩ := KB w9 hb_w9; have u0 := KB1.cell 0; have u1 := KB1.cell 1; have u2 := KB1.cell 2; have u3 := KB1.cell 3; have f0 := KB1.frozen 0; have f1 := KB1.frozen 1; have f2 := KB1.frozen 2; have f3 := KB1.frozen 3; have z9 := KB1.lt)
      all_goals go_wp2_with fail
      all_goals
        have lB9 := KB1.lt
        have z9s := KB3.size
        have hB9 := ((((KB1.set_ 0 (.int .i64 X)).set_ 1 (.int .i64 Y)).set_ 2 (.int .i64 p)).set_ 3 (.int .i64 q))
        have hO9 := own_far (p := ⟨w1.heap.size, 3, none⟩) (own_far (p := ⟨w1.heap.size, 2, none⟩) (own_far (p := ⟨w1.heap.size, 1, none⟩) (own_far (p := ⟨w1.heap.size, 0, none⟩) (own_below HO.out KB3 (Nat.le_refl _)) HNE.out (.int .i64 X)) HNE.out (.int .i64 Y)) HNE.out (.int .i64 p)) HNE.out (.int .i64 q)
        have bel9 := (((bthen HBW.out KB3 HBW.out.size).setCell (p := ⟨w1.heap.size, 0, none⟩) (show w.heap.size ≤ w1.heap.size by omega) (.int .i64 X)).setCell (p := ⟨w1.heap.size, 1, none⟩) (show w.heap.size ≤ w1.heap.size by omega) (.int .i64 Y)).setCell (p := ⟨w1.heap.size, 2, none⟩) (show w.heap.size ≤ w1.heap.size by omega) (.int .i64 p) |>.setCell (p := ⟨w1.heap.size, 3, none⟩) (show w.heap.size ≤ w1.heap.size by omega) (.int .i64 q)
        have s9 : ((((w9.setCell ⟨w1.heap.size, 0, none⟩ (.int .i64 X)).setCell ⟨w1.heap.size, 1, none⟩ (.int .i64 Y)).setCell ⟨w1.heap.size, 2, none⟩ (.int .i64 p)).setCell ⟨w1.heap.size, 3, none⟩ (.int .i64 q)).heap.size = w9.heap.size := by simp
        rw [← s9]
        generalize (((w9.setCell ⟨w1.heap.size, 0, none⟩ (.int .i64 X)).setCell ⟨w1.heap.size, 1, none⟩ (.int .i64 Y)).setCell ⟨w1.heap.size, 2, none⟩ (.int .i64 p)).setCell ⟨w1.heap.size, 3, none⟩ (.int .i64 q) = w10 at *
        have hF := new2 w10 24 (.int .i64 X) (.int .i64 Y)
        have z10 := bel9.size
        have hszA : w10.heap.size < (w10.alloc (.cells #[.int .i64 X, .int .i64 Y] 24)).heap.size := by rw [World.size_alloc]; omega
        have belA := bel9.alloc z10 (.cells #[.int .i64 X, .int .i64 Y] 24)
        have lB10 := hB9.lt
        clear KB KB1 KB3 u0 u1 u2 u3 f0 f1 f2 f3 z9 hb_w9 s9 e0 e1 e2 e3 kN c1
        cases hfs : fitN zs (j + 1)
        · rw [hfs] at kV
          have HB := Lib.hid (HBD.out hfs)
          clear hfs HBD
          apply Calls.mono
          · with_reducible exact kV _
          rintro _ w11 ⟨rfl, hb_w11⟩
          go_wp2
          go_ret2
          refine ⟨.slice none 0 0, by rw [HB.out]; rfl, fun e => ?_, bthen belA hb_w11 belA.size⟩
          rw [HB.out] at e; cases e
        · rw [hfs] at kV
          apply Calls.mono
          · with_reducible exact kV _
          rintro _ w11 ⟨rfl, hb_w11⟩
          have f1 : w11.cell? ⟨w10.heap.size, 0, none⟩ = some (.int .i64 X) := (hb_w11.cell (p := ⟨w10.heap.size, 0, none⟩) hszA).trans hF.1
          have f2 : w11.cell? ⟨w10.heap.size, 1, none⟩ = some (.int .i64 Y) := (hb_w11.cell (p := ⟨w10.heap.size, 1, none⟩) hszA).trans hF.2
          have hl2 : w10.heap.size < w11.heap.size := Nat.lt_of_lt_of_le hszA hb_w11.size
          have hO11 := own_below (hO9.alloc (.cells #[.int .i64 X, .int .i64 Y] 24)) hb_w11 (Nat.le_refl _)
          have hB11 := (hB9.alloc (.cells #[.int .i64 X, .int .i64 Y] 24)).below hb_w11 (Nat.lt_trans lB10 hszA)
          have bel11 := bthen belA hb_w11 belA.size
          have z11 := bel11.size
          have HFS := Lib.hid hfs
          clear hF hszA hfs kV hO9 hB9 bel9 belA hb_w11
          go_wp2_with (at_builtin; refine wpList_append_own_at _ rfl (.tmp 30) (.tmp 32) 57 rfl w.heap.size 24 i0 _ 2 16 Try.underlying57 hi0 hz0 hz1 hz2 rfl (by decide) _ j (prc (cvl zs j)) rfl (hO11.alloc _) ⟨w11.heap.size, 0, none⟩ 1 1 [.int .i64 X, .int .i64 Y] rfl rfl (World.news_of_block (cs := #[.int .i64 X, .int .i64 Y]) (t := 24) (fr := (0, 0)) (heap_alloc_new w11 _)) (by simp [Value.oneCell']) (by simp only [maxLen]; omega) (by omega) (by simp; omega) ?_; intro v1 w3 hown4 hgr1 _ hat1)
          go_roundg (gk - 1)
          case measure => omega
          case rel =>
            refine ⟨j + 1, by omega, by omega, by go_num, HFS.out, ?_, ?_, ?_, ?_⟩
            · rw [HX'.out, HY'.out, HP.out, HQ.out]
              exact (hB11.alloc _).grown hgr1 (fun e => HNE.out e.symm)
            · rw [HS.out]; exact hown4
            · rcases hat1 with e | e
              · rw [e]; exact HNE.out
              · rw [e, World.size_alloc]
                intro e2
                injection e2 with e2
                have := hB11.lt
                omega
            · exact (bel11.alloc z11 _).grown hgr1 (by rw [World.size_alloc]; omega) (fun k hk => (hO11.lt k hk).1)
    · obtain rfl : j = n := by omega
      have hF : fitL zs = true := by unfold fitL; rw [HL.out]; exact hfit
      have HF := Lib.hid hF
      clear hfit hF
      go_wp2
      go_ret2
      refine ⟨u4, by rw [HF.out]; rfl, fun _ => ?_, hbw⟩
      rw [HL.out]
      exact hown
end Go.Proofs.Ytlmmpeeacjbobaa
