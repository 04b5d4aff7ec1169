/-
  The convergents of a list of terms, as the program lists them.
-/
import Derived.Test.YtlmmpeeacjbobaaCon
import Derived.Deep.AppendLies
namespace Go.Proofs.Ytlmmpeeacjbobaa
open Go.RowKit

theorem cfit_bd {zs : List Int} (h1 : ∀ j, fitN zs j = true → fitE (mtx (zs.take j)) = true ∨ j = 0) : ∀ {j : Nat}, fitN zs j = true → j ≤ zs.length →
    (-1000000000 ≤ (mtx (zs.take j)).1.1 ∧ (mtx (zs.take j)).1.1 ≤ 1000000000) ∧ (-1000000000 ≤ (mtx (zs.take j)).1.2 ∧ (mtx (zs.take j)).1.2 ≤ 1000000000) ∧ (-1000000000 ≤ (mtx (zs.take j)).2.1 ∧ (mtx (zs.take j)).2.1 ≤ 1000000000) ∧ (-1000000000 ≤ (mtx (zs.take j)).2.2 ∧ (mtx (zs.take j)).2.2 ≤ 1000000000)
  | 0, _, _ => by simp [mtx]
  | j + 1, h, hl => by
    have hf : fitE (mtx (zs.take (j + 1))) = true := by
      rcases h1 _ h with e | e
      · exact e
      · omega
    unfold fitE at hf
    rw [Bool.and_eq_true, inB_iff, inB_iff] at hf
    refine ⟨hf.1, hf.2, ?_⟩
    have e : zs.take (j + 1) = zs.take j ++ [zs[j]] := by simp
    rw [e, mtx_snoc]
    simp only [mtS]
    have hj : fitN zs j = true := by
      unfold fitN at h
      exact (Bool.and_eq_true_iff.1 h).1
    have := cfit_bd h1 hj (by omega)
    exact ⟨this.1, this.2.1⟩
theorem fit_last (zs : List Int) : ∀ j, fitN zs j = true → fitE (mtx (zs.take j)) = true ∨ j = 0
  | 0, _ => .inr rfl
  | j + 1, h => .inl (fitN_le h (by omega) (Nat.le_refl _))
theorem take_snoc {zs : List Int} {j : Nat} {t : Int} (h : zs[j]? = some t) : zs.take (j + 1) = zs.take j ++ [t] := by
  rw [List.take_add_one, h]; rfl
theorem tms_get {zs : List Int} (ht : tmsB zs = true) {j : Nat} {t : Int} (h : zs[j]? = some t) : -1000000000 ≤ t ∧ t ≤ 1000000000 := by
  obtain ⟨_, h2, h3⟩ := tms_iff.1 ht
  cases j with
  | zero =>
    have e : zs.getD 0 0 = t := by rw [List.getD_eq_getElem?_getD, h]; rfl
    rw [e] at h2; exact h2
  | succ j =>
    have := h3 t (List.mem_of_getElem? (i := j) (by rw [List.getElem?_drop, Nat.add_comm]; exact h))
    omega
/-- The first n convergents. -/
def cvl (zs : List Int) (n : Nat) : List (Int × Int) := (List.range n).map fun k => (mtx (zs.take (k + 1))).1
def prc (xs : List (Int × Int)) : List Value := xs.flatMap fun p => [.int .i64 p.1, .int .i64 p.2]
theorem cvl_len (zs : List Int) (n : Nat) : (cvl zs n).length = n := by simp [cvl]
theorem prc_len (xs : List (Int × Int)) : (prc xs).length = xs.length * 2 := by
  induction xs with
  | nil => rfl
  | cons x xs ih => simp [prc] at ih ⊢; omega
theorem cvl_succ (zs : List Int) (n : Nat) : prc (cvl zs (n + 1)) = prc (cvl zs n) ++ [.int .i64 (mtx (zs.take (n + 1))).1.1, .int .i64 (mtx (zs.take (n + 1))).1.2] := by
  simp [cvl, prc, List.range_succ]
theorem Try.infoFq : (Try.prog.info? 24).map (fun i => (i.zero, i.size, i.bytes)) = some (some (.agg #[.int .i64 0, .int .i64 0]), 2, 16) := by kernel_rfl
def CvP (w : World) (zs : List Int) (e : Ending) (w' : World) : Prop :=
  ∃ v, e = .returned (.tuple #[v, .bool (fitL zs)]) ∧ (fitL zs = true → w'.ownsRow w.heap.size 24 2 v zs.length (prc (cvl zs zs.length))) ∧ Below w.heap.size w w'
def CvR (w : World) (zs : List Int) (n : Nat) (k : Nat) (v p q p0 q0 i : Value) (wr : World) : Prop :=
  ∃ j : Nat, j ≤ n ∧ n ≤ j + k ∧ i = .int .i64 j ∧ fitN zs j = true ∧ p = .int .i64 (mtx (zs.take j)).1.1 ∧ q = .int .i64 (mtx (zs.take j)).1.2 ∧ p0 = .int .i64 (mtx (zs.take j)).2.1 ∧ q0 = .int .i64 (mtx (zs.take j)).2.2 ∧
    wr.ownsRow w.heap.size 24 2 v j (prc (cvl zs j)) ∧ Below w.heap.size w wr
theorem mulb {a b : Int} (a1 : -1000000000 ≤ a) (a2 : a ≤ 1000000000) (b1 : -1000000000 ≤ b) (b2 : b ≤ 1000000000) : -1000000000000000000 ≤ a * b ∧ a * b ≤ 1000000000000000000 := by
  have h := Int.natAbs_mul a b
  have : a.natAbs * b.natAbs ≤ 1000000000 * 1000000000 := Nat.mul_le_mul (by omega) (by omega)
  omega
set_option maxHeartbeats 2000000 in
set_option maxRecDepth 100000 in
theorem convergents_any (v : Value) (n : Nat) (zs : List Int) (w : World) (hv : Rd w 1 v n (ints zs)) (ht : tmsB zs = true) : Calls Try.prog 107 #[v] w (CvP w zs) := by
  obtain ⟨i0, hi0, hz0, hz1, hz2⟩ := info_parts Try.infoFq
  have hl : zs.length = n := by have := (rd_len hv).1; rw [ints_len] at this; omega
  have hn60 : n ≤ 60 := by have := (tms_iff.1 ht).1; omega
  obtain ⟨A, c, rfl, hn1, hc1, _, hr1⟩ := hv
  have R1 := Lib.hid hr1
  have HL := Lib.hid hl
  have HT := Lib.hid ht
  clear hr1 hl ht
  go_enter Try.func107, Try.ntmps107
  go_wp2_with (at_make; refine wpList_make_own _ rfl _ (.tmp 13) 57 rfl w.heap.size 24 i0 _ 2 Try.underlying57 hi0 hz0 hz1 .i64 .i64 n n rfl rfl rfl (by rw [hz2]; omega) (by simp only [maxLen]; omega) (Nat.le_refl _) ?_; intro w1 hown hgrow)
  go_loopg [4, 5, 6, 7, 8, 17] n (fun k v p q p0 q0 i wr => CvR w zs n k v p q p0 q0 i wr)
  case atStart =>
    exact ⟨0, by omega, by omega, rfl, rfl, rfl, rfl, rfl, rfl, by simpa [prc, cvl] using hown, (Below.refl _ _).grown hgrow (Nat.le_refl _) (fun k hk => by cases hk)⟩
  case round =>
    obtain ⟨j, hj1, hj2, rfl, hfit, rfl, rfl, rfl, rfl, hown2, hbw⟩ := hrel
    clear hown hgrow
    have hs := hbw.size
    by_cases hjn : j < n
    · obtain ⟨t, hz⟩ := get_ex (l := zs) (k := j) (by have := HL.out; omega)
      rcases R1.out with h0 | ⟨g, o, rfl, hg, hcell⟩
      · omega
      have c1 : wr.cell? ⟨g, o + j, none⟩ = some (.int .i64 t) := (hbw.cell (p := ⟨g, o + j, none⟩) hg).trans (hcell j _ (ints_get hz))
      have hgw : g < wr.heap.size := by omega
      have hjn' : (j : Int) < (n : Int) := by omega
      obtain ⟨t1, t2⟩ := tms_get HT.out hz
      obtain ⟨⟨b1, b2⟩, ⟨b3, b4⟩, ⟨b5, b6⟩, ⟨b7, b8⟩⟩ := cfit_bd (fit_last zs) hfit (by rw [HL.out]; omega)
      have hM : mtx (zs.take (j + 1)) = mtS (mtx (zs.take j)) t := by rw [take_snoc hz, mtx_snoc]
      have hok : okF (mtx (zs.take (j + 1))).1.1 (mtx (zs.take (j + 1))).1.2 = fitE (mtx (zs.take (j + 1))) := by
        refine okF_fit ?_ ?_
        · rw [take_snoc hz]; simp
        · intro s hs
          rw [List.drop_take] at hs
          exact ((tms_iff.1 HT.out).2.2 s (List.mem_of_mem_take hs)).1
      have hsuc := cvl_succ zs j
      have hfs : fitN zs (j + 1) = (fitN zs j && fitE (mtx (zs.take (j + 1)))) := rfl
      rw [hfit, Bool.true_and] at hfs
      have hbad : fitE (mtx (zs.take (j + 1))) = false → fitL zs = false := fun e => fitN_bad e (by rw [HL.out]; exact hjn)
      rw [← hfs] at hok hbad
      rw [hM] at hok hsuc
      simp only [mtS] at hok hsuc
      have hM2 : (mtx (zs.take (j + 1))).1.1 = t * (mtx (zs.take j)).1.1 + (mtx (zs.take j)).2.1 ∧ (mtx (zs.take (j + 1))).1.2 = t * (mtx (zs.take j)).1.2 + (mtx (zs.take j)).2.2 ∧ (mtx (zs.take (j + 1))).2.1 = (mtx (zs.take j)).1.1 ∧ (mtx (zs.take (j + 1))).2.2 = (mtx (zs.take j)).1.2 := by rw [hM]; exact ⟨rfl, rfl, rfl, rfl⟩
      have HM := Lib.hid hM2
      have HS := Lib.hid hsuc
      have HO := Lib.hid hown2
      have HBW := Lib.hid hbw
      clear hz hcell R1 hM hM2 hfs hsuc hfit hown2
      generalize (mtx (zs.take j)).1.1 = p at *
      generalize (mtx (zs.take j)).1.2 = q at *
      generalize (mtx (zs.take j)).2.1 = p0 at *
      generalize (mtx (zs.take j)).2.2 = q0 at *
      obtain ⟨m1, m2⟩ := mulb t1 t2 b1 b2
      obtain ⟨m3, m4⟩ := mulb t1 t2 b3 b4
      cases hfs : fitN zs (j + 1)
      · rw [hfs] at hok hbad
        have HB := Lib.hid (hbad rfl)
        clear hbad hfs
        go_wp2_with fail
        apply Calls.mono
        · with_reducible exact validFraction_any _ _ false hok _
        rintro _ w2 ⟨rfl, hb_w2⟩
        go_wp2
        go_ret2
        refine ⟨.slice none 0 0, by rw [HB.out]; rfl, fun e => ?_, ?_⟩
        · rw [HB.out] at e; cases e
        · exact bthen (HBW.out.alloc (by omega) _) hb_w2 (by rw [World.size_alloc]; omega)
      · rw [hfs] at hok
        clear hbad
        go_wp2_with fail
        apply Calls.mono
        · with_reducible exact validFraction_any _ _ true hok _
        rintro _ w2 ⟨rfl, hb_w2⟩
        have hown3 : w2.ownsRow w.heap.size 24 2 u4 j (prc (cvl zs j)) := own_below (HO.out.alloc _) hb_w2 (Nat.le_refl _)
        have hbw2 : Below w.heap.size w w2 := bthen (HBW.out.alloc (by omega) _) hb_w2 (by rw [World.size_alloc]; omega)
        have hs2 := hbw2.size
        have hF := new2 wr 24 (.int .i64 (t * p + p0)) (.int .i64 (t * q + q0))
        have hszA : wr.heap.size < (wr.alloc (.cells #[.int .i64 (t * p + p0), .int .i64 (t * q + q0)] 24)).heap.size := by rw [World.size_alloc]; omega
        have f1 : w2.cell? ⟨wr.heap.size, 0, none⟩ = some (.int .i64 (t * p + p0)) := (hb_w2.cell (p := ⟨wr.heap.size, 0, none⟩) hszA).trans hF.1
        have f2 : w2.cell? ⟨wr.heap.size, 1, none⟩ = some (.int .i64 (t * q + q0)) := (hb_w2.cell (p := ⟨wr.heap.size, 1, none⟩) hszA).trans hF.2
        have hl2 : wr.heap.size < w2.heap.size := Nat.lt_of_lt_of_le hszA hb_w2.size
        clear hF hszA
        go_wp2_with (at_builtin; refine wpList_append_own_at _ rfl (.tmp 39) (.tmp 41) 57 rfl w.heap.size 24 i0 _ 2 16 Try.underlying57 hi0 hz0 hz1 hz2 rfl (by decide) _ j (prc (cvl zs j)) rfl (hown3.alloc _) ⟨w2.heap.size, 0, none⟩ 1 1 [.int .i64 (t * p + p0), .int .i64 (t * q + q0)] rfl rfl (World.news_of_block (cs := #[.int .i64 (t * p + p0), .int .i64 (t * q + q0)]) (t := 24) (fr := (0, 0)) (heap_alloc_new w2 _)) (by simp [Value.oneCell']) (by simp only [maxLen]; omega) (by omega) (by simp; omega) ?_; intro v1 w3 hown4 hgr1 _ hat1)
        go_roundg (gk - 1)
        case measure => omega
        case rel =>
          refine ⟨j + 1, by omega, by omega, by go_num, hfs, by rw [HM.out.1], by rw [HM.out.2.1], by rw [HM.out.2.2.1], by rw [HM.out.2.2.2], ?_, ?_⟩
          · rw [HS.out]; exact hown4
          · exact (hbw2.alloc (by omega) _).grown hgr1 (by rw [World.size_alloc]; omega) (fun k hk => (hown3.lt k hk).1)
    · obtain rfl : j = n := by omega
      have hF : fitL zs = true := by unfold fitL; rw [HL.out]; exact hfit
      have HF := Lib.hid hF
      clear hfit hF
      go_wp2
      go_ret2
      refine ⟨u4, by rw [HF.out]; rfl, fun _ => ?_, hbw⟩
      rw [HL.out]
      exact hown2
end Go.Proofs.Ytlmmpeeacjbobaa
