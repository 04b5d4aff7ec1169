/-
  Convergents and ends of paths for terms up to 1000000001. Printed by mkwide.py out of XCnv, XCv2 and XPf.
-/
import Derived.Test.YtlmmpeeacjbobaaPf
import Derived.Deep.RegionWith
namespace Go.Proofs.Ytlmmpeeacjbobaa
open Go.RowKit

def tmsW (l : List Int) : Bool := decide (1 ≤ l.length) && decide (l.length ≤ 60) && inB (l.getD 0 0) (-1000000001) 1000000001 && (l.drop 1).all fun t => inB t 1 1000000001
theorem tmsW_iff {l : List Int} : tmsW l = true ↔ (1 ≤ l.length ∧ l.length ≤ 60) ∧ (-1000000001 ≤ l.getD 0 0 ∧ l.getD 0 0 ≤ 1000000001) ∧ ∀ t ∈ l.drop 1, 1 ≤ t ∧ t ≤ 1000000001 := by
  unfold tmsW
  rw [Bool.and_eq_true, Bool.and_eq_true, Bool.and_eq_true, decide_eq_true_eq, decide_eq_true_eq, inB_iff, List.all_eq_true]
  constructor
  · rintro ⟨⟨h1, h2⟩, h3⟩
    exact ⟨h1, h2, fun t ht => inB_iff.1 (h3 t ht)⟩
  · rintro ⟨h1, h2, h3⟩
    exact ⟨⟨h1, h2⟩, fun t ht => inB_iff.2 (h3 t ht)⟩
theorem tmsW_get {zs : List Int} (ht : tmsW zs = true) {j : Nat} {t : Int} (h : zs[j]? = some t) : -1000000001 ≤ t ∧ t ≤ 1000000001 := by
  obtain ⟨_, h2, h3⟩ := tmsW_iff.1 ht
  cases j with
  | zero =>
    have e : zs.getD 0 0 = t := by rw [List.getD_eq_getElem?_getD, h]; rfl
    rw [e] at h2; exact h2
  | succ j =>
    have := h3 t (List.mem_of_getElem? (i := j) (by rw [List.getElem?_drop, Nat.add_comm]; exact h))
    omega
theorem mulw {a b : Int} (a1 : -1000000001 ≤ a) (a2 : a ≤ 1000000001) (b1 : -1000000000 ≤ b) (b2 : b ≤ 1000000000) : -1000000001000000000 ≤ a * b ∧ a * b ≤ 1000000001000000000 := by
  have h := Int.natAbs_mul a b
  have : a.natAbs * b.natAbs ≤ 1000000001 * 1000000000 := Nat.mul_le_mul (by omega) (by omega)
  omega
set_option maxHeartbeats 2000000 in
set_option maxRecDepth 100000 in
theorem convergents_w (v : Value) (n : Nat) (zs : List Int) (w : World) (hv : Rd w 1 v n (ints zs)) (ht : tmsW zs = true) : Calls Try.prog 107 #[v] w (CvP w zs) := by
  obtain ⟨i0, hi0, hz0, hz1, hz2⟩ := info_parts Try.infoFq
  have hl : zs.length = n := by have := (rd_len hv).1; rw [ints_len] at this; omega
  have hn60 : n ≤ 60 := by have := (tmsW_iff.1 ht).1; omega
  obtain ⟨A, c, rfl, hn1, hc1, _, hr1⟩ := hv
  have R1 := Lib.hid hr1
  have HL := Lib.hid hl
  have HT := Lib.hid ht
  clear hr1 hl ht
  go_enter Try.func107, Try.ntmps107
  go_wp2_with (at_make; refine wpList_make_own _ rfl _ (.tmp 13) 57 rfl w.heap.size 24 i0 _ 2 Try.underlying57 hi0 hz0 hz1 .i64 .i64 n n rfl rfl rfl (by rw [hz2]; omega) (by simp only [maxLen]; omega) (Nat.le_refl _) ?_; intro w1 hown hgrow)
  go_loopg [4, 5, 6, 7, 8, 17] n (fun k v p q p0 q0 i wr => CvR w zs n k v p q p0 q0 i wr)
  case atStart =>
    exact ⟨0, by omega, by omega, rfl, rfl, rfl, rfl, rfl, rfl, by simpa [prc, cvl] using hown, (Below.refl _ _).grown hgrow (Nat.le_refl _) (fun k hk => by cases hk)⟩
  case round =>
    obtain ⟨j, hj1, hj2, rfl, hfit, rfl, rfl, rfl, rfl, hown2, hbw⟩ := hrel
    clear hown hgrow
    have hs := hbw.size
    by_cases hjn : j < n
    · obtain ⟨t, hz⟩ := get_ex (l := zs) (k := j) (by have := HL.out; omega)
      rcases R1.out with h0 | ⟨g, o, rfl, hg, hcell⟩
      · omega
      have c1 : wr.cell? ⟨g, o + j, none⟩ = some (.int .i64 t) := (hbw.cell (p := ⟨g, o + j, none⟩) hg).trans (hcell j _ (ints_get hz))
      have hgw : g < wr.heap.size := by omega
      have hjn' : (j : Int) < (n : Int) := by omega
      obtain ⟨t1, t2⟩ := tmsW_get HT.out hz
      obtain ⟨⟨b1, b2⟩, ⟨b3, b4⟩, ⟨b5, b6⟩, ⟨b7, b8⟩⟩ := cfit_bd (fit_last zs) hfit (by rw [HL.out]; omega)
      have hM : mtx (zs.take (j + 1)) = mtS (mtx (zs.take j)) t := by rw [take_snoc hz, mtx_snoc]
      have hok : okF (mtx (zs.take (j + 1))).1.1 (mtx (zs.take (j + 1))).1.2 = fitE (mtx (zs.take (j + 1))) := by
        refine okF_fit ?_ ?_
        · rw [take_snoc hz]; simp
        · intro s hs
          rw [List.drop_take] at hs
          exact ((tmsW_iff.1 HT.out).2.2 s (List.mem_of_mem_take hs)).1
      have hsuc := cvl_succ zs j
      have hfs : fitN zs (j + 1) = (fitN zs j && fitE (mtx (zs.take (j + 1)))) := rfl
      rw [hfit, Bool.true_and] at hfs
      have hbad : fitE (mtx (zs.take (j + 1))) = false → fitL zs = false := fun e => fitN_bad e (by rw [HL.out]; exact hjn)
      rw [← hfs] at hok hbad
      rw [hM] at hok hsuc
      simp only [mtS] at hok hsuc
      have hM2 : (mtx (zs.take (j + 1))).1.1 = t * (mtx (zs.take j)).1.1 + (mtx (zs.take j)).2.1 ∧ (mtx (zs.take (j + 1))).1.2 = t * (mtx (zs.take j)).1.2 + (mtx (zs.take j)).2.2 ∧ (mtx (zs.take (j + 1))).2.1 = (mtx (zs.take j)).1.1 ∧ (mtx (zs.take (j + 1))).2.2 = (mtx (zs.take j)).1.2 := by rw [hM]; exact ⟨rfl, rfl, rfl, rfl⟩
      have HM := Lib.hid hM2
      have HS := Lib.hid hsuc
      have HO := Lib.hid hown2
      have HBW := Lib.hid hbw
      clear hz hcell R1 hM hM2 hfs hsuc hfit hown2
      generalize (mtx (zs.take j)).1.1 = p at *
      generalize (mtx (zs.take j)).1.2 = q at *
      generalize (mtx (zs.take j)).2.1 = p0 at *
      generalize (mtx (zs.take j)).2.2 = q0 at *
      obtain ⟨m1, m2⟩ := mulw t1 t2 b1 b2
      obtain ⟨m3, m4⟩ := mulw t1 t2 b3 b4
      cases hfs : fitN zs (j + 1)
      · rw [hfs] at hok hbad
        have HB := Lib.hid (hbad rfl)
        clear hbad hfs
        go_wp2_with fail
        apply Calls.mono
        · with_reducible exact validFraction_any _ _ false hok _
        rintro _ w2 ⟨rfl, hb_w2⟩
        go_wp2
        go_ret2
        refine ⟨.slice none 0 0, by rw [HB.out]; rfl, fun e => ?_, ?_⟩
        · rw [HB.out] at e; cases e
        · exact bthen (HBW.out.alloc (by omega) _) hb_w2 (by rw [World.size_alloc]; omega)
      · rw [hfs] at hok
        clear hbad
        go_wp2_with fail
        apply Calls.mono
        · with_reducible exact validFraction_any _ _ true hok _
        rintro _ w2 ⟨rfl, hb_w2⟩
        have hown3 : w2.ownsRow w.heap.size 24 2 u4 j (prc (cvl zs j)) := own_below (HO.out.alloc _) hb_w2 (Nat.le_refl _)
        have hbw2 : Below w.heap.size w w2 := bthen (HBW.out.alloc (by omega) _) hb_w2 (by rw [World.size_alloc]; omega)
        have hs2 := hbw2.size
        have hF := new2 wr 24 (.int .i64 (t * p + p0)) (.int .i64 (t * q + q0))
        have hszA : wr.heap.size < (wr.alloc (.cells #[.int .i64 (t * p + p0), .int .i64 (t * q + q0)] 24)).heap.size := by rw [World.size_alloc]; omega
        have f1 : w2.cell? ⟨wr.heap.size, 0, none⟩ = some (.int .i64 (t * p + p0)) := (hb_w2.cell (p := ⟨wr.heap.size, 0, none⟩) hszA).trans hF.1
        have f2 : w2.cell? ⟨wr.heap.size, 1, none⟩ = some (.int .i64 (t * q + q0)) := (hb_w2.cell (p := ⟨wr.heap.size, 1, none⟩) hszA).trans hF.2
        have hl2 : wr.heap.size < w2.heap.size := Nat.lt_of_lt_of_le hszA hb_w2.size
        clear hF hszA
        go_wp2_with (at_builtin; refine wpList_append_own_at _ rfl (.tmp 39) (.tmp 41) 57 rfl w.heap.size 24 i0 _ 2 16 Try.underlying57 hi0 hz0 hz1 hz2 rfl (by decide) _ j (prc (cvl zs j)) rfl (hown3.alloc _) ⟨w2.heap.size, 0, none⟩ 1 1 [.int .i64 (t * p + p0), .int .i64 (t * q + q0)] rfl rfl (World.news_of_block (cs := #[.int .i64 (t * p + p0), .int .i64 (t * q + q0)]) (t := 24) (fr := (0, 0)) (heap_alloc_new w2 _)) (by simp [Value.oneCell']) (by simp only [maxLen]; omega) (by omega) (by simp; omega) ?_; intro v1 w3 hown4 hgr1 _ hat1)
        go_roundg (gk - 1)
        case measure => omega
        case rel =>
          refine ⟨j + 1, by omega, by omega, by go_num, hfs, by rw [HM.out.1], by rw [HM.out.2.1], by rw [HM.out.2.2.1], by rw [HM.out.2.2.2], ?_, ?_⟩
          · rw [HS.out]; exact hown4
          · exact (hbw2.alloc (by omega) _).grown hgr1 (by rw [World.size_alloc]; omega) (fun k hk => (hown3.lt k hk).1)
    · obtain rfl : j = n := by omega
      have hF : fitL zs = true := by unfold fitL; rw [HL.out]; exact hfit
      have HF := Lib.hid hF
      clear hfit hF
      go_wp2
      go_ret2
      refine ⟨u4, by rw [HF.out]; rfl, fun _ => ?_, hbw⟩
      rw [HL.out]
      exact hown2
set_option maxHeartbeats 1000000 in
theorem next_w (p q pp qq t : Int) (h1 : -1000000000 ≤ p) (h2 : p ≤ 1000000000) (h3 : -1000000000 ≤ q) (h4 : q ≤ 1000000000) (h5 : -1000000000 ≤ pp) (h6 : pp ≤ 1000000000) (h7 : -1000000000 ≤ qq) (h8 : qq ≤ 1000000000) (h9 : -1000000001 ≤ t) (h10 : t ≤ 1000000001) (x y : Int) (hx : t * p + pp = x) (hy : t * q + qq = y) (w : World) :
    Calls Try.prog 125 #[.agg #[.int .i64 p, .int .i64 q, .int .i64 pp, .int .i64 qq], .int .i64 t] w (Ret w (.agg #[.int .i64 x, .int .i64 y, .int .i64 p, .int .i64 q])) := by
  obtain ⟨m3, m4⟩ := mulw h9 h10 h1 h2
  obtain ⟨m5, m6⟩ := mulw h9 h10 h3 h4
  subst hx hy
  go_enter Try.func125, Try.ntmps125
  go_wp2
  refine bodyPost_ret (by simp [results, Try.results125, go_sem, *]; try rfl) rfl ?_
  refine ⟨by first | rfl | simp, ?_⟩
  repeat' (first | (with_reducible exact Below.refl _ _) | (with_reducible assumption) | (with_reducible refine Below.alloc ?_ ?_ _) | (with_reducible refine Below.drew ?_) | (with_reducible refine bdrewN ?_ _) | (with_reducible refine Below.setCell ?_ ?_ _) | (with_reducible refine bthen ?_ (by assumption) ?_) | go_size)
set_option maxHeartbeats 2000000 in
set_option maxRecDepth 100000 in
theorem l03Convergents_w (v : Value) (n : Nat) (zs : List Int) (w : World) (hv : Rd w 1 v n (ints zs)) (ht : tmsW zs = true) : Calls Try.prog 105 #[v] w (CvP w zs) := by
  obtain ⟨i0, hi0, hz0, hz1, hz2⟩ := info_parts Try.infoFq
  have hl : zs.length = n := by have := (rd_len hv).1; rw [ints_len] at this; omega
  have hn60 : n ≤ 60 := by have := (tmsW_iff.1 ht).1; omega
  obtain ⟨A, c, rfl, hn1, hc1, _, hr1⟩ := hv
  have R1 := Lib.hid hr1
  have HL := Lib.hid hl
  have HT := Lib.hid ht
  clear hr1 hl ht
  go_enter Try.func105, Try.ntmps105
  go_wp2_with fail
  apply Calls.mono
  · with_reducible exact l03New_c _
  rintro _ w1 ⟨rfl, hb_w1⟩
  have bel1 : Below w.heap.size w w1 := bthen ((Below.refl _ _).alloc (Nat.le_refl _) _) hb_w1 (by rw [World.size_alloc]; omega)
  have own1 := own_below (own_litF w 24) hb_w1 (by rw [World.size_alloc]; exact Nat.le_refl _)
  have z1 := hb_w1.size
  rw [World.size_alloc] at z1
  have hC := Blk.new w1 104 #[.int .i64 1, .int .i64 0, .int .i64 0, .int .i64 1]
  have B1 := Lib.hid bel1
  have O1 := Lib.hid own1
  have C1 := Lib.hid hC
  clear bel1 own1 hC hb_w1
  go_wp2_with fail
  go_loopg [4, 6] n (fun k v i wr => CcR w w.heap.size w1.heap.size zs n k v i wr)
  case atStart =>
    exact ⟨0, by omega, by omega, rfl, rfl, C1.out, by simpa [prc, cvl] using O1.out.alloc _, fun e => by have e : some w.heap.size = some w1.heap.size := e; injection e with e; omega, B1.out.alloc B1.out.size _⟩
  case round =>
    obtain ⟨j, hj1, hj2, rfl, hfit, hB, hown, hne, hbw⟩ := hrel
    have hs := hbw.size
    by_cases hjn : j < n
    · obtain ⟨t, hz⟩ := get_ex (l := zs) (k := j) (by have := HL.out; omega)
      rcases R1.out with h0 | ⟨g, o, rfl, hg, hcell⟩
      · omega
      have c1 : wr.cell? ⟨g, o + j, none⟩ = some (.int .i64 t) := (hbw.cell (p := ⟨g, o + j, none⟩) hg).trans (hcell j _ (ints_get hz))
      have hgw : g < wr.heap.size := by omega
      have hjn' : (j : Int) < (n : Int) := by omega
      obtain ⟨t1, t2⟩ := tmsW_get HT.out hz
      obtain ⟨⟨b1, b2⟩, ⟨b3, b4⟩, ⟨b5, b6⟩, ⟨b7, b8⟩⟩ := cfit_bd (fit_last zs) hfit (by rw [HL.out]; omega)
      have hM : mtx (zs.take (j + 1)) = mtS (mtx (zs.take j)) t := by rw [take_snoc hz, mtx_snoc]
      have hok : okF (mtx (zs.take (j + 1))).1.1 (mtx (zs.take (j + 1))).1.2 = fitE (mtx (zs.take (j + 1))) := by
        refine okF_fit ?_ ?_
        · rw [take_snoc hz]; simp
        · intro s hs
          rw [List.drop_take] at hs
          exact ((tmsW_iff.1 HT.out).2.2 s (List.mem_of_mem_take hs)).1
      have hsuc := cvl_succ zs j
      have hfs : fitN zs (j + 1) = (fitN zs j && fitE (mtx (zs.take (j + 1)))) := rfl
      rw [hfit, Bool.true_and] at hfs
      have hbad : fitE (mtx (zs.take (j + 1))) = false → fitL zs = false := fun e => fitN_bad e (by rw [HL.out]; exact hjn)
      rw [← hfs] at hok hbad
      have hX : t * (mtx (zs.take j)).1.1 + (mtx (zs.take j)).2.1 = (mtx (zs.take (j + 1))).1.1 := by rw [hM]; rfl
      have hY : t * (mtx (zs.take j)).1.2 + (mtx (zs.take j)).2.2 = (mtx (zs.take (j + 1))).1.2 := by rw [hM]; rfl
      have hP : (mtx (zs.take (j + 1))).2.1 = (mtx (zs.take j)).1.1 := by rw [hM]; rfl
      have hQ : (mtx (zs.take (j + 1))).2.2 = (mtx (zs.take j)).1.2 := by rw [hM]; rfl
      have kN := fun w => next_w (mtx (zs.take j)).1.1 (mtx (zs.take j)).1.2 (mtx (zs.take j)).2.1 (mtx (zs.take j)).2.2 t b1 b2 b3 b4 b5 b6 b7 b8 t1 t2 _ _ hX hY w
      have x1 : -2000000000000000000 ≤ (mtx (zs.take (j + 1))).1.1 ∧ (mtx (zs.take (j + 1))).1.1 ≤ 2000000000000000000 := by have := mulw t1 t2 b1 b2; omega
      have y1 : -2000000000000000000 ≤ (mtx (zs.take (j + 1))).1.2 ∧ (mtx (zs.take (j + 1))).1.2 ≤ 2000000000000000000 := by have := mulw t1 t2 b3 b4; omega
      have kV := fun w => l02Ok_any (mtx (zs.take (j + 1))).1.1 (mtx (zs.take (j + 1))).1.2 _ hok w
      have HP := Lib.hid hP
      have HQ := Lib.hid hQ
      have HS := Lib.hid hsuc
      have HO := Lib.hid hown
      have HBW := Lib.hid hbw
      have HBD := Lib.hid hbad
      have HNE := Lib.hid hne
      have lB := hB.lt
      have e0 : wr.cell? ⟨w1.heap.size, 0, none⟩ = some (.int .i64 (mtx (zs.take j)).1.1) := hB.cell 0
      have e1 : wr.cell? ⟨w1.heap.size, 1, none⟩ = some (.int .i64 (mtx (zs.take j)).1.2) := hB.cell 1
      have e2 : wr.cell? ⟨w1.heap.size, 2, none⟩ = some (.int .i64 (mtx (zs.take j)).2.1) := hB.cell 2
      have e3 : wr.cell? ⟨w1.heap.size, 3, none⟩ = some (.int .i64 (mtx (zs.take j)).2.2) := hB.cell 3
      have KB : ∀ w9, Below wr.drew.heap.size wr.drew w9 → Blk w9 w1.heap.size 104 #[.int .i64 (mtx (zs.take j)).1.1, .int .i64 (mtx (zs.take j)).1.2, .int .i64 (mtx (zs.take j)).2.1, .int .i64 (mtx (zs.take j)).2.2] ∧ Below wr.heap.size wr w9 := fun w9 hb => ⟨hB.drew.below hb lB, bthen (Below.refl _ _).drew hb (Nat.le_refl _)⟩
      have nB : g ≠ w1.heap.size := by omega
      clear hz hcell R1 hM hX hY hP hQ hsuc hown hbw hfit hok hbad hne hB b1 b2 b3 b4 b5 b6 b7 b8
      generalize hX' : (mtx (zs.take (j + 1))).1.1 = X at *
      generalize hY' : (mtx (zs.take (j + 1))).1.2 = Y at *
      have HX' := Lib.hid hX'
      have HY' := Lib.hid hY'
      clear hX' hY'
      generalize (mtx (zs.take j)).1.1 = p at *
      generalize (mtx (zs.take j)).1.2 = q at *
      generalize (mtx (zs.take j)).2.1 = p0 at *
      generalize (mtx (zs.take j)).2.2 = q0 at *
      go_wp2_with fail
      go_region_with (go_at_call 125; refine (kN _).mono ?_; rintro _ w9 ⟨rfl, hb_w9⟩; obtain ⟨KB1, KB3⟩ := KB w9 hb_w9; have u0 := KB1.cell 0; have u1 := KB1.cell 1; have u2 := KB1.cell 2; have u3 := KB1.cell 3; have f0 := KB1.frozen 0; have f1 := KB1.frozen 1; have f2 := KB1.frozen 2; have f3 := KB1.frozen 3; have z9 := KB1.lt)
      all_goals go_wp2_with fail
      all_goals
        have lB9 := KB1.lt
        have z9s := KB3.size
        have hB9 := ((((KB1.set_ 0 (.int .i64 X)).set_ 1 (.int .i64 Y)).set_ 2 (.int .i64 p)).set_ 3 (.int .i64 q))
        have hO9 := own_far (p := ⟨w1.heap.size, 3, none⟩) (own_far (p := ⟨w1.heap.size, 2, none⟩) (own_far (p := ⟨w1.heap.size, 1, none⟩) (own_far (p := ⟨w1.heap.size, 0, none⟩) (own_below HO.out KB3 (Nat.le_refl _)) HNE.out (.int .i64 X)) HNE.out (.int .i64 Y)) HNE.out (.int .i64 p)) HNE.out (.int .i64 q)
        have bel9 := (((bthen HBW.out KB3 HBW.out.size).setCell (p := ⟨w1.heap.size, 0, none⟩) (show w.heap.size ≤ w1.heap.size by omega) (.int .i64 X)).setCell (p := ⟨w1.heap.size, 1, none⟩) (show w.heap.size ≤ w1.heap.size by omega) (.int .i64 Y)).setCell (p := ⟨w1.heap.size, 2, none⟩) (show w.heap.size ≤ w1.heap.size by omega) (.int .i64 p) |>.setCell (p := ⟨w1.heap.size, 3, none⟩) (show w.heap.size ≤ w1.heap.size by omega) (.int .i64 q)
        have s9 : ((((w9.setCell ⟨w1.heap.size, 0, none⟩ (.int .i64 X)).setCell ⟨w1.heap.size, 1, none⟩ (.int .i64 Y)).setCell ⟨w1.heap.size, 2, none⟩ (.int .i64 p)).setCell ⟨w1.heap.size, 3, none⟩ (.int .i64 q)).heap.size = w9.heap.size := by simp
        rw [← s9]
        generalize (((w9.setCell ⟨w1.heap.size, 0, none⟩ (.int .i64 X)).setCell ⟨w1.heap.size, 1, none⟩ (.int .i64 Y)).setCell ⟨w1.heap.size, 2, none⟩ (.int .i64 p)).setCell ⟨w1.heap.size, 3, none⟩ (.int .i64 q) = w10 at *
        have hF := new2 w10 24 (.int .i64 X) (.int .i64 Y)
        have z10 := bel9.size
        have hszA : w10.heap.size < (w10.alloc (.cells #[.int .i64 X, .int .i64 Y] 24)).heap.size := by rw [World.size_alloc]; omega
        have belA := bel9.alloc z10 (.cells #[.int .i64 X, .int .i64 Y] 24)
        have lB10 := hB9.lt
        clear KB KB1 KB3 u0 u1 u2 u3 f0 f1 f2 f3 z9 hb_w9 s9 e0 e1 e2 e3 kN c1
        cases hfs : fitN zs (j + 1)
        · rw [hfs] at kV
          have HB := Lib.hid (HBD.out hfs)
          clear hfs HBD
          apply Calls.mono
          · with_reducible exact kV _
          rintro _ w11 ⟨rfl, hb_w11⟩
          go_wp2
          go_ret2
          refine ⟨.slice none 0 0, by rw [HB.out]; rfl, fun e => ?_, bthen belA hb_w11 belA.size⟩
          rw [HB.out] at e; cases e
        · rw [hfs] at kV
          apply Calls.mono
          · with_reducible exact kV _
          rintro _ w11 ⟨rfl, hb_w11⟩
          have f1 : w11.cell? ⟨w10.heap.size, 0, none⟩ = some (.int .i64 X) := (hb_w11.cell (p := ⟨w10.heap.size, 0, none⟩) hszA).trans hF.1
          have f2 : w11.cell? ⟨w10.heap.size, 1, none⟩ = some (.int .i64 Y) := (hb_w11.cell (p := ⟨w10.heap.size, 1, none⟩) hszA).trans hF.2
          have hl2 : w10.heap.size < w11.heap.size := Nat.lt_of_lt_of_le hszA hb_w11.size
          have hO11 := own_below (hO9.alloc (.cells #[.int .i64 X, .int .i64 Y] 24)) hb_w11 (Nat.le_refl _)
          have hB11 := (hB9.alloc (.cells #[.int .i64 X, .int .i64 Y] 24)).below hb_w11 (Nat.lt_trans lB10 hszA)
          have bel11 := bthen belA hb_w11 belA.size
          have z11 := bel11.size
          have HFS := Lib.hid hfs
          clear hF hszA hfs kV hO9 hB9 bel9 belA hb_w11
          go_wp2_with (at_builtin; refine wpList_append_own_at _ rfl (.tmp 30) (.tmp 32) 57 rfl w.heap.size 24 i0 _ 2 16 Try.underlying57 hi0 hz0 hz1 hz2 rfl (by decide) _ j (prc (cvl zs j)) rfl (hO11.alloc _) ⟨w11.heap.size, 0, none⟩ 1 1 [.int .i64 X, .int .i64 Y] rfl rfl (World.news_of_block (cs := #[.int .i64 X, .int .i64 Y]) (t := 24) (fr := (0, 0)) (heap_alloc_new w11 _)) (by simp [Value.oneCell']) (by simp only [maxLen]; omega) (by omega) (by simp; omega) ?_; intro v1 w3 hown4 hgr1 _ hat1)
          go_roundg (gk - 1)
          case measure => omega
          case rel =>
            refine ⟨j + 1, by omega, by omega, by go_num, HFS.out, ?_, ?_, ?_, ?_⟩
            · rw [HX'.out, HY'.out, HP.out, HQ.out]
              exact (hB11.alloc _).grown hgr1 (fun e => HNE.out e.symm)
            · rw [HS.out]; exact hown4
            · rcases hat1 with e | e
              · rw [e]; exact HNE.out
              · rw [e, World.size_alloc]
                intro e2
                injection e2 with e2
                have := hB11.lt
                omega
            · exact (bel11.alloc z11 _).grown hgr1 (by rw [World.size_alloc]; omega) (fun k hk => (hO11.lt k hk).1)
    · obtain rfl : j = n := by omega
      have hF : fitL zs = true := by unfold fitL; rw [HL.out]; exact hfit
      have HF := Lib.hid hF
      clear hfit hF
      go_wp2
      go_ret2
      refine ⟨u4, by rw [HF.out]; rfl, fun _ => ?_, hbw⟩
      rw [HL.out]
      exact hown
set_option maxHeartbeats 2000000 in
set_option maxRecDepth 100000 in
theorem fractionAt_w (v : Value) (i : List Int) (l : Int) (w : World) (hv : Rs w 1 v (i.length + 1) (ints (i ++ [l]))) (hl1 : -1000000000 ≤ l) (hl2 : l ≤ 1000000000) (ht : tmsW (i ++ [l + 1]) = true) :
    Calls Try.prog 64 #[v] w (Ret w (.tuple #[.agg #[.int .i64 (caM (i ++ [l + 1])).1, .int .i64 (caM (i ++ [l + 1])).2.1], .bool (caM (i ++ [l + 1])).2.2])) := by
  have hlen : i.length + 1 ≤ 60 := by have := (tmsW_iff.1 ht).1; rw [List.length_append, List.length_singleton] at this; omega
  obtain ⟨M, hM⟩ : ∃ M, caM (i ++ [l + 1]) = M := ⟨_, rfl⟩
  rw [hM]
  have HM := Lib.hid hM
  have HT := Lib.hid ht
  obtain ⟨A, c, rfl, -⟩ := id hv.1
  have HV := Lib.hid hv
  clear hM ht hv
  have hS0 := fun W (hb : Below w.heap.size w W) => HV.out.below hb (Nat.le_refl _)
  go_enter Try.func64, Try.ntmps64
  have z3 : w.heap.size + 1 ≤ (((w.alloc (.cells #[.int .i64 0, .int .i64 0] 24)).alloc (.cells #[.int .i64 1] 2)).alloc (.cells #[] 2)).heap.size := by rw [World.size_alloc, World.size_alloc, World.size_alloc]; omega
  have hS3 := ((HV.out.alloc (.cells #[.int .i64 0, .int .i64 0] 24)).alloc (.cells #[.int .i64 1] 2)).alloc (.cells #[] 2)
  have KA := fun v w' h => own_last (w := w') (v := v) (base := w.heap.size + 1) (e := 2) (n := 0 + (i.length + 1)) (xs := ints ([] ++ (i ++ [l]))) i l (Nat.zero_add _) (by rw [List.nil_append]) h
  go_wp2_with (at_builtin; refine wp_appI rfl (.tmp 11) (.tmp 12) rfl (w.heap.size + 1) _ _ 0 (i.length + 1) [] (i ++ [l]) rfl (own_lit02 _ _ _ 2) rfl hS3 (by omega) z3 ?_; intro v1 w1 hown1 hgr1 hat1; obtain ⟨g, cap, rfl, ⟨hg1, hg2, hg3⟩, c1, f1, hown2⟩ := KA _ _ hown1)
  have hB0 := ((Blk.new w 24 #[.int .i64 0, .int .i64 0]).alloc (.cells #[.int .i64 1] 2)).alloc (.cells #[] 2)
  have hB1 := hB0.grown hgr1 (fun e => by have e : some w.heap.size = some (w.heap.size + 1 + 1) := e; injection e with e; omega)
  have bel1 : Below w.heap.size w w1 := ((((Below.refl _ _).alloc (Nat.le_refl _) _).alloc (by rw [World.size_alloc]; omega) _).alloc (by rw [World.size_alloc, World.size_alloc]; omega) _).grown hgr1 (by omega) (fun k hk => by have e : some (w.heap.size + 1 + 1) = some k := hk; injection e with e; omega)
  have hst := own_changed (l + 1) hown2
  have bel2 := bel1.setCell (p := ⟨g, i.length, none⟩) (show w.heap.size ≤ g by omega) (.int .i64 (l + 1))
  have hB2 : Blk (w1.setCell ⟨g, i.length, none⟩ (.int .i64 (l + 1))) w.heap.size 24 #[.int .i64 0, .int .i64 0] := hB1.far (p := ⟨g, i.length, none⟩) (show w.heap.size ≠ g by omega) _
  have kC := convergents_w _ (i.length + 1) (i ++ [l + 1]) _ (Rd.of_own hst) HT.out
  clear KA hB0 hB1 hown1 hown2 hgr1 hat1 bel1 z3 hS3 hS0
  apply Calls.mono
  · with_reducible exact kC
  rintro _ w3 ⟨v3, rfl, ho3, hb_w3⟩
  have hB3 := hB2.below hb_w3 hB2.lt
  have bel3 := bthen bel2 hb_w3 bel2.size
  have d0 : w3.cell? ⟨w.heap.size, 0, none⟩ = some (.int .i64 0) := hB3.cell 0
  have d1 : w3.cell? ⟨w.heap.size, 1, none⟩ = some (.int .i64 0) := hB3.cell 1
  have d2 : w3.frozen? ⟨w.heap.size, 0, none⟩ = false := hB3.frozen 0
  have d3 : w3.frozen? ⟨w.heap.size, 1, none⟩ = false := hB3.frozen 1
  have zB := hB3.lt
  have HM1 := HM.out
  unfold caM at HM1
  cases hF : fitL (i ++ [l + 1])
  · rw [hF] at HM1
    obtain rfl : (0, 0, false) = M := HM1
    clear ho3 HM
    go_wp2
    refine bodyPost_ret (by simp [results, Try.results64, go_sem, *]; try rfl) rfl ?_
    refine ⟨by first | rfl | simp, ?_⟩
    repeat' (first | (with_reducible exact Below.refl _ _) | (with_reducible assumption) | (with_reducible refine Below.alloc ?_ ?_ _) | (with_reducible refine Below.drew ?_) | (with_reducible refine bdrewN ?_ _) | (with_reducible refine Below.setCell ?_ ?_ _) | (with_reducible refine bthen ?_ (by assumption) ?_) | go_size)
  · rw [hF] at HM1
    obtain rfl : ((mtx (i ++ [l + 1])).1.1, (mtx (i ++ [l + 1])).1.2, true) = M := HM1
    have hlz : (i ++ [l + 1]).length = i.length + 1 := by simp
    have hown := ho3 hF
    obtain ⟨p1, p2⟩ := prc_last hlz
    obtain ⟨g3, cap3, rfl, x1, x2, x3, x4⟩ := own_blk2 hown (by omega)
    rw [hlz] at hown p1 p2
    have e0 : w3.cell? ⟨g3, i.length * 2, none⟩ = _ := (hown.cellAt (i.length * 2) (by omega)).trans p1
    have e1 : w3.cell? ⟨g3, i.length * 2 + 1, none⟩ = _ := (hown.cellAt (i.length * 2 + 1) (by omega)).trans p2
    generalize (mtx (i ++ [l + 1])).1.1 = X at *
    generalize (mtx (i ++ [l + 1])).1.2 = Y at *
    clear ho3 hown p1 p2 HM
    rw [hlz]
    go_wp2
    refine bodyPost_ret (by simp [results, Try.results64, go_sem, *]; try rfl) rfl ?_
    refine ⟨by first | rfl | simp, ?_⟩
    repeat' (first | (with_reducible exact Below.refl _ _) | (with_reducible assumption) | (with_reducible refine Below.alloc ?_ ?_ _) | (with_reducible refine Below.drew ?_) | (with_reducible refine bdrewN ?_ _) | (with_reducible refine Below.setCell ?_ ?_ _) | (with_reducible refine bthen ?_ (by assumption) ?_) | go_size)
set_option maxHeartbeats 2000000 in
set_option maxRecDepth 100000 in
theorem l05At_w (v : Value) (i : List Int) (l : Int) (w : World) (hv : Rs w 1 v (i.length + 1) (ints (i ++ [l]))) (hl1 : -1000000000 ≤ l) (hl2 : l ≤ 1000000000) (ht : tmsW (i ++ [l + 1]) = true) :
    Calls Try.prog 60 #[v] w (Ret w (.tuple #[.agg #[.int .i64 (caM (i ++ [l + 1])).1, .int .i64 (caM (i ++ [l + 1])).2.1], .bool (caM (i ++ [l + 1])).2.2])) := by
  have hlen : i.length + 1 ≤ 60 := by have := (tmsW_iff.1 ht).1; rw [List.length_append, List.length_singleton] at this; omega
  obtain ⟨M, hM⟩ : ∃ M, caM (i ++ [l + 1]) = M := ⟨_, rfl⟩
  rw [hM]
  have HM := Lib.hid hM
  have HT := Lib.hid ht
  obtain ⟨A, c, rfl, -⟩ := id hv.1
  have kO := own_any _ (i.length + 1) (i ++ [l]) _ (hv.alloc (.cells #[.int .i64 0, .int .i64 0] 24)) (by omega)
  have hB0 := Blk.new w 24 #[.int .i64 0, .int .i64 0]
  have bel0 : Below w.heap.size w (w.alloc (.cells #[.int .i64 0, .int .i64 0] 24)) := (Below.refl _ _).alloc (Nat.le_refl _) _
  have hn0 : ¬ (((i.length + 1 : Nat) : Int) = 0) := by omega
  clear hM ht hv
  go_enter Try.func60, Try.ntmps60
  go_wp2_with fail
  apply Calls.mono
  · with_reducible exact kO
  rintro _ w1 ⟨v1, rfl, hown1, hb_w1⟩
  have hB1 := hB0.below hb_w1 hB0.lt
  have bel1 := bthen bel0 hb_w1 bel0.size
  obtain ⟨g, cap, rfl, ⟨hg1, hg2, hg3⟩, c1, f1, hown2⟩ := own_last i l rfl rfl hown1
  rw [World.size_alloc] at hg1
  have hst := own_changed (l + 1) hown2
  have bel2 := bel1.setCell (p := ⟨g, i.length, none⟩) (show w.heap.size ≤ g by omega) (.int .i64 (l + 1))
  have hB2 : Blk (w1.setCell ⟨g, i.length, none⟩ (.int .i64 (l + 1))) w.heap.size 24 #[.int .i64 0, .int .i64 0] := hB1.far (p := ⟨g, i.length, none⟩) (show w.heap.size ≠ g by omega) _
  have kC := l03Convergents_w _ (i.length + 1) (i ++ [l + 1]) _ (Rd.of_own hst) HT.out
  clear hB0 hB1 hown1 hown2 bel1 bel0 kO hb_w1
  go_wp2_with fail
  apply Calls.mono
  · with_reducible exact kC
  rintro _ w3 ⟨v3, rfl, ho3, hb_w3⟩
  have hB3 := hB2.below hb_w3 hB2.lt
  have bel3 := bthen bel2 hb_w3 bel2.size
  have d0 : w3.cell? ⟨w.heap.size, 0, none⟩ = some (.int .i64 0) := hB3.cell 0
  have d1 : w3.cell? ⟨w.heap.size, 1, none⟩ = some (.int .i64 0) := hB3.cell 1
  have d2 : w3.frozen? ⟨w.heap.size, 0, none⟩ = false := hB3.frozen 0
  have d3 : w3.frozen? ⟨w.heap.size, 1, none⟩ = false := hB3.frozen 1
  have zB := hB3.lt
  have HM1 := HM.out
  unfold caM at HM1
  cases hF : fitL (i ++ [l + 1])
  · rw [hF] at HM1
    obtain rfl : (0, 0, false) = M := HM1
    clear ho3 HM
    go_wp2
    refine bodyPost_ret (by simp [results, Try.results60, go_sem, *]; try rfl) rfl ?_
    refine ⟨by first | rfl | simp, ?_⟩
    repeat' (first | (with_reducible exact Below.refl _ _) | (with_reducible assumption) | (with_reducible refine Below.alloc ?_ ?_ _) | (with_reducible refine Below.drew ?_) | (with_reducible refine bdrewN ?_ _) | (with_reducible refine Below.setCell ?_ ?_ _) | (with_reducible refine bthen ?_ (by assumption) ?_) | go_size)
  · rw [hF] at HM1
    obtain rfl : ((mtx (i ++ [l + 1])).1.1, (mtx (i ++ [l + 1])).1.2, true) = M := HM1
    have hlz : (i ++ [l + 1]).length = i.length + 1 := by simp
    have hown := ho3 hF
    obtain ⟨p1, p2⟩ := prc_last hlz
    obtain ⟨g3, cap3, rfl, x1, x2, x3, x4⟩ := own_blk2 hown (by omega)
    rw [hlz] at hown p1 p2
    have e0 : w3.cell? ⟨g3, i.length * 2, none⟩ = _ := (hown.cellAt (i.length * 2) (by omega)).trans p1
    have e1 : w3.cell? ⟨g3, i.length * 2 + 1, none⟩ = _ := (hown.cellAt (i.length * 2 + 1) (by omega)).trans p2
    generalize (mtx (i ++ [l + 1])).1.1 = X at *
    generalize (mtx (i ++ [l + 1])).1.2 = Y at *
    clear ho3 hown p1 p2 HM
    rw [hlz]
    go_wp2
    refine bodyPost_ret (by simp [results, Try.results60, go_sem, *]; try rfl) rfl ?_
    refine ⟨by first | rfl | simp, ?_⟩
    repeat' (first | (with_reducible exact Below.refl _ _) | (with_reducible assumption) | (with_reducible refine Below.alloc ?_ ?_ _) | (with_reducible refine Below.drew ?_) | (with_reducible refine bdrewN ?_ _) | (with_reducible refine Below.setCell ?_ ?_ _) | (with_reducible refine bthen ?_ (by assumption) ?_) | go_size)
end Go.Proofs.Ytlmmpeeacjbobaa

