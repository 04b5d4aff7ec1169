/-
  The common beginning of two paths: both packages' loops.
-/
import Derived.Test.YtlmmpeeacjbobaaCa
import Derived.Deep.AppendLies
import Derived.Deep.CutRange
import Derived.Deep.RegionLaw
namespace Go.Proofs.Ytlmmpeeacjbobaa
open Go.RowKit

theorem ints_snoc' (xs : List Int) (x : Int) : ints (xs ++ [x]) = ints xs ++ [.int .i64 x] := by simp [ints]
def CmR (w : World) (n1 n2 : Nat) (a b : List Int) (k : Nat) (v i : Value) (wr : World) : Prop :=
  ∃ j : Nat, j ≤ n1 ∧ j ≤ n2 ∧ n1 ≤ j + k ∧ i = .int .i64 j ∧ (∀ t : Nat, t < j → a[t]? = b[t]?) ∧ wr.ownsRow w.heap.size 2 1 v j (ints (a.take j)) ∧ Below w.heap.size w wr
set_option maxHeartbeats 2000000 in
set_option maxRecDepth 100000 in
theorem commonPath_any (v1 v2 : Value) (n1 n2 : Nat) (a b : List Int) (w : World) (h1 : Rs w 1 v1 n1 (ints a)) (h2 : Rs w 1 v2 n2 (ints b)) (b1 : n1 ≤ 60) (b2 : n2 ≤ 60) :
    Calls Try.prog 68 #[v1, v2] w (fun e w' => ∃ v', e = .returned v' ∧ Rs w' 1 v' (coL a b).length (ints (coL a b)) ∧ Below w.heap.size w w') := by
  obtain ⟨i1, hi1, hy0, hy1, hy2⟩ := Try.zeroI
  have l1 : a.length = n1 := by have := (rd_len h1.1).1; rw [ints_len] at this; omega
  have l2 : b.length = n2 := by have := (rd_len h2.1).1; rw [ints_len] at this; omega
  obtain ⟨A1, k1, rfl, q1, q2, -, hr1⟩ := id h1.1
  obtain ⟨A2, k2, rfl, q3, q4, -, hr2⟩ := id h2.1
  have R1 := Lib.hid hr1
  have R2 := Lib.hid hr2
  have L1 := Lib.hid l1
  have L2 := Lib.hid l2
  clear h1 h2 hr1 hr2 l1 l2
  have fin : ∀ (v : Value) (W : World) (xs : List Int) (n : Nat), cmL a b = xs → W.ownsRow w.heap.size 2 1 v n (ints xs) → Below w.heap.size w W → Calls Try.prog 65 #[v] W (fun e w' => ∃ v', e = .returned v' ∧ Rs w' 1 v' (coL a b).length (ints (coL a b)) ∧ Below w.heap.size w w') := fun v W xs n e ho hb => by
    refine (trimmed_any v n xs W (Rs.of_own ho)).mono ?_
    rintro _ w2 ⟨v', rfl, hR, hb2⟩
    unfold coL
    rw [e]
    exact ⟨v', rfl, hR, bthen hb hb2 hb.size⟩
  have FIN := Lib.hid fin
  clear fin
  go_enter Try.func68, Try.ntmps68
  go_wp2_with fail
  go_loopg [5, 6] n1 (fun k v i wr => CmR w n1 n2 a b k v i wr)
  case atStart => exact ⟨0, by omega, by omega, by omega, rfl, fun t ht => absurd ht (by omega), World.ownsRow_nil _ _ _ _, Below.refl _ _⟩
  case round =>
    obtain ⟨j, hj1, hj2, hj3, rfl, hall, hown, hbw⟩ := hrel
    have hs := hbw.size
    by_cases hjn : j < n1 ∧ j < n2
    · obtain ⟨hja, hjb⟩ := hjn
      obtain ⟨x, hx⟩ := get_ex (l := a) (k := j) (by have := L1.out; omega)
      obtain ⟨y, hy⟩ := get_ex (l := b) (k := j) (by have := L2.out; omega)
      rcases R1.out with h0 | ⟨g, o, rfl, hg, hcell⟩
      · omega
      rcases R2.out with h0 | ⟨g', o', rfl, hg', hcell'⟩
      · omega
      have c1 : wr.cell? ⟨g, o + j, none⟩ = some (.int .i64 x) := (hbw.cell (p := ⟨g, o + j, none⟩) hg).trans (hcell j _ (ints_get hx))
      have c2 : wr.cell? ⟨g', o' + j, none⟩ = some (.int .i64 y) := (hbw.cell (p := ⟨g', o' + j, none⟩) hg').trans (hcell' j _ (ints_get hy))
      have hgw : g < wr.heap.size := by omega
      have hgw' : g' < wr.heap.size := by omega
      have hja' : (j : Int) < (n1 : Int) := by omega
      have hjb' : (j : Int) < (n2 : Int) := by omega
      have htk : x = y → a.take (j + 1) = a.take j ++ [x] := fun _ => take_snoc hx
      have hstop : x ≠ y → cmL a b = a.take j ++ [min x y] := fun h => cm_stop hall hx hy h
      have hall2 : x = y → ∀ t : Nat, t < j + 1 → a[t]? = b[t]? := fun h t ht => by
        by_cases e : t = j
        · subst e; rw [hx, hy, h]
        · exact hall t (by omega)
      obtain ⟨va, vc, hvv⟩ := own_slice hown
      subst hvv
      obtain ⟨m, hm⟩ : ∃ m, (if y < x then y else x) = m := ⟨_, rfl⟩
      have hm2 : min x y = m := by rw [← hm]; omega
      rw [hm2] at hstop
      have hm3 : x = y → m = x := fun h => by rw [← hm2, h]; omega
      have HM3 := Lib.hid hm3
      have HTK := Lib.hid htk
      have HST := Lib.hid hstop
      have HAL := Lib.hid hall2
      have KA : ∀ wa w3, Below wr.heap.size wr wa → wa.grownBy w3 (Value.ownBlock (.slice va j vc)) → Below w.heap.size w w3 ∧ w3.cell? ⟨g, o + j, none⟩ = some (.int .i64 x) ∧ w3.cell? ⟨g', o' + j, none⟩ = some (.int .i64 y) ∧ (g < w3.heap.size ∧ g' < w3.heap.size) := fun wa w3 hba hg3 => by
        have b1 := bthen hbw hba hs
        have b3 : Below w.heap.size w w3 := b1.grown hg3 b1.size (fun k hk => (hown.lt k hk).1)
        refine ⟨b3, (b3.cell (p := ⟨g, o + j, none⟩) hg).trans (hcell j _ (ints_get hx)), (b3.cell (p := ⟨g', o' + j, none⟩) hg').trans (hcell' j _ (ints_get hy)), Nat.lt_of_lt_of_le hg b3.size, Nat.lt_of_lt_of_le hg' b3.size⟩
      clear hx hy hcell hcell' R1 R2 hall htk hstop hall2 hm2 hm3
      by_cases hxy : x = y
      · have hall3 := HAL.out hxy
        have htk3 := HTK.out hxy
        have hm4 := HM3.out hxy
        have HTK3 := Lib.hid htk3
        have HAL3 := Lib.hid hall3
        subst hxy
        subst hm4
        clear HTK HAL HM3 HST hall3 htk3 hm
        go_upto_region 5 with fail
        go_cut [5] from 7 to 39 (fun s5 wx => ∃ g3 cap3, s5 = .slice (some ⟨g3, 0, none⟩) (j + 1) cap3 ∧ wx.ownsRow w.heap.size 2 1 (.slice (some ⟨g3, 0, none⟩) (j + 1) cap3) (j + 1) (ints (a.take j) ++ [.int .i64 m]) ∧ Below w.heap.size w wx ∧ wx.cell? ⟨g, o + j, none⟩ = some (.int .i64 m) ∧ wx.cell? ⟨g', o' + j, none⟩ = some (.int .i64 m) ∧ (g < wx.heap.size ∧ g' < wx.heap.size))
        case first =>
          go_region_law ((refine step_append_lies _ (by rfl) _ _ _ (by rfl) w.heap.size 2 i1 _ 1 8 Try.underlying35 hi1 hy0 hy1 hy2 (by rfl) (by decide) (.slice va j vc) j (ints (a.take j)) (by rfl) (by first | exact hown.alloc _ | exact (own_below hown (Below.refl _ _).drew (Nat.le_refl _)).alloc _) ⟨wr.heap.size, 0, none⟩ 1 1 [.int .i64 m] (by rfl) (by rfl) (World.news_of_block (cs := #[.int .i64 m]) (t := 2) (fr := (0, 0)) (heap_alloc_new _ _)) (by simp [Value.oneCell']) (by omega) (by simp only [maxLen]; omega) (by omega) (by simp; omega) (wr.heap.size + 1) (by simp) ?_; intro g3 cap3 w3 hown3 hgr3 hat3 hlt3; obtain ⟨d1, d2, d3, d4, d5⟩ := KA _ w3 (by first | exact (Below.refl _ _).alloc (Nat.le_refl _) _ | exact ((Below.refl _ _).alloc (Nat.le_refl _) _).drew | exact ((Below.refl _ _).drew).alloc (by simp) _) hgr3))
          all_goals go_wp2_with fail
          all_goals go_meet
          all_goals exact ⟨g3, cap3, rfl, hown3, d1, d2, d3, d4, d5⟩
        case rest =>
          obtain ⟨g3, cap3, rfl, hown3, d1, d2, d3, d4, d5⟩ := hcut
          clear c1 c2 hgw hgw' KA hown hbw hs
          go_wp2_with fail
          refine wp_region_calm (by kernel_rfl) (by kernel_rfl) ?_
          repeat (go_big_quiet_step ((fail)))
          refine wpQuiet_nil ?_
          intro w4 hb_w4
          obtain ⟨hc_w4, hf_w4, hs_w4⟩ := bcell hb_w4
          try simp at hs_w4
          have bel4 := bthen d1 hb_w4 d1.size
          have own4 := own_below hown3 hb_w4 (Nat.le_refl _)
          go_wp2
          go_roundg (gk - 1)
          case measure => omega
          case rel =>
            refine ⟨j + 1, by omega, by omega, by omega, by go_num, HAL3.out, ?_, bel4⟩
            rw [HTK3.out, ints_snoc']
            exact own4
      · have hst3 := HST.out hxy
        have HST3 := Lib.hid hst3
        have hne : (x != y) = true := by simp [hxy]
        clear HTK HAL HM3 HST hst3
        go_upto_region 5 with fail
        go_cut [5] from 7 to 39 (fun s5 wx => ∃ g3 cap3, s5 = .slice (some ⟨g3, 0, none⟩) (j + 1) cap3 ∧ wx.ownsRow w.heap.size 2 1 (.slice (some ⟨g3, 0, none⟩) (j + 1) cap3) (j + 1) (ints (a.take j) ++ [.int .i64 m]) ∧ Below w.heap.size w wx ∧ wx.cell? ⟨g, o + j, none⟩ = some (.int .i64 x) ∧ wx.cell? ⟨g', o' + j, none⟩ = some (.int .i64 y) ∧ (g < wx.heap.size ∧ g' < wx.heap.size))
        case first =>
          go_region_law ((refine step_append_lies _ (by rfl) _ _ _ (by rfl) w.heap.size 2 i1 _ 1 8 Try.underlying35 hi1 hy0 hy1 hy2 (by rfl) (by decide) (.slice va j vc) j (ints (a.take j)) (by rfl) (by first | exact hown.alloc _ | exact (own_below hown (Below.refl _ _).drew (Nat.le_refl _)).alloc _) ⟨wr.heap.size, 0, none⟩ 1 1 [.int .i64 (m)] (by rfl) (by rfl) (World.news_of_block (cs := #[.int .i64 (m)]) (t := 2) (fr := (0, 0)) (heap_alloc_new _ _)) (by simp [Value.oneCell']) (by omega) (by simp only [maxLen]; omega) (by omega) (by simp; omega) (wr.heap.size + 1) (by simp) ?_; intro g3 cap3 w3 hown3 hgr3 hat3 hlt3; obtain ⟨d1, d2, d3, d4, d5⟩ := KA _ w3 (by first | exact (Below.refl _ _).alloc (Nat.le_refl _) _ | exact ((Below.refl _ _).alloc (Nat.le_refl _) _).drew | exact ((Below.refl _ _).drew).alloc (by simp) _) hgr3))
          all_goals go_wp2_with fail
          all_goals go_meet
          all_goals exact ⟨g3, cap3, rfl, hown3, d1, d2, d3, d4, d5⟩
        case rest =>
          obtain ⟨g3, cap3, rfl, hown3, d1, d2, d3, d4, d5⟩ := hcut
          clear c1 c2 hgw hgw' KA hown hbw hs
          go_wp2_with fail
          refine wp_region_calm (by kernel_rfl) (by kernel_rfl) ?_
          repeat (go_big_quiet_step ((fail)))
          refine wpQuiet_nil ?_
          intro w4 hb_w4
          obtain ⟨hc_w4, hf_w4, hs_w4⟩ := bcell hb_w4
          try simp at hs_w4
          have bel4 := bthen d1 hb_w4 d1.size
          have own4 := own_below hown3 hb_w4 (Nat.le_refl _)
          rw [← ints_snoc'] at own4
          have kF := FIN.out _ w4 _ _ HST3.out own4 bel4
          go_wp2_with fail
          apply Calls.mono
          · with_reducible exact kF
          rintro _ w5 ⟨v', rfl, hR, hb5⟩
          go_wp2
          go_ret
          exact ⟨v', rfl, hR, hb5⟩
    · have hend : cmL a b = a.take j := cm_end hall (by have := L1.out; have := L2.out; omega)
      have kF := FIN.out _ wr _ _ hend hown hbw
      clear hall hend R1 R2
      by_cases hja : j < n1
      · have hjb : ¬ ((j : Int) < (n2 : Int)) := by omega
        have hja' : (j : Int) < (n1 : Int) := by omega
        go_wp2_with fail
        apply Calls.mono
        · with_reducible exact kF
        rintro _ w5 ⟨v', rfl, hR, hb5⟩
        go_wp2
        go_ret
        exact ⟨v', rfl, hR, hb5⟩
      · have hja' : ¬ ((j : Int) < (n1 : Int)) := by omega
        go_wp2_with fail
        apply Calls.mono
        · with_reducible exact kF
        rintro _ w5 ⟨v', rfl, hR, hb5⟩
        go_wp2
        go_ret
        exact ⟨v', rfl, hR, hb5⟩
theorem l00Min_any (x y m : Int) (hm : min x y = m) (w : World) : Calls Try.prog 108 #[.int .i64 x, .int .i64 y] w (Ret w (.int .i64 m)) := by
  by_cases h : x < y
  · obtain rfl : x = m := by omega
    clear hm
    go_enter Try.func108, Try.ntmps108
    go_wp2
    go_ret
    refine ⟨by first | rfl | (simp), ?_⟩
    repeat' (first | (with_reducible exact Below.refl _ _) | (with_reducible assumption) | (with_reducible refine Below.alloc ?_ ?_ _) | (with_reducible refine Below.drew ?_) | (with_reducible refine bdrewN ?_ _) | (with_reducible refine Below.setCell ?_ ?_ _) | (with_reducible refine bthen ?_ (by assumption) ?_) | go_size)
  · obtain rfl : y = m := by omega
    clear hm
    go_enter Try.func108, Try.ntmps108
    go_wp2
    go_ret
    refine ⟨by first | rfl | (simp), ?_⟩
    repeat' (first | (with_reducible exact Below.refl _ _) | (with_reducible assumption) | (with_reducible refine Below.alloc ?_ ?_ _) | (with_reducible refine Below.drew ?_) | (with_reducible refine bdrewN ?_ _) | (with_reducible refine Below.setCell ?_ ?_ _) | (with_reducible refine bthen ?_ (by assumption) ?_) | go_size)
set_option maxHeartbeats 2000000 in
set_option maxRecDepth 100000 in
theorem l05Common_any (v1 v2 : Value) (n1 n2 : Nat) (a b : List Int) (w : World) (h1 : Rs w 1 v1 n1 (ints a)) (h2 : Rs w 1 v2 n2 (ints b)) (ha : PthOk a) (hb : PthOk b) :
    Calls Try.prog 67 #[v1, v2] w (fun e w' => ∃ v', e = .returned v' ∧ Rs w' 1 v' (coL a b).length (ints (coL a b)) ∧ Below w.heap.size w w') := by
  obtain ⟨i1, hi1, hy0, hy1, hy2⟩ := Try.zeroI
  have b1 : n1 ≤ 60 := by have := (rd_len h1.1).1; rw [ints_len] at this; have := ha.len; omega
  have b2 : n2 ≤ 60 := by have := (rd_len h2.1).1; rw [ints_len] at this; have := hb.len; omega
  have hcm := cm_ok ha hb
  have hco : coL a b = if cmL a b = [0] then [] else cmL a b := trl_pth hcm
  have HCM := Lib.hid hcm
  have HCO := Lib.hid hco
  clear ha hb hcm hco
  have l1 : a.length = n1 := by have := (rd_len h1.1).1; rw [ints_len] at this; omega
  have l2 : b.length = n2 := by have := (rd_len h2.1).1; rw [ints_len] at this; omega
  obtain ⟨A1, k1, rfl, q1, q2, -, hr1⟩ := id h1.1
  obtain ⟨A2, k2, rfl, q3, q4, -, hr2⟩ := id h2.1
  have R1 := Lib.hid hr1
  have R2 := Lib.hid hr2
  have L1 := Lib.hid l1
  have L2 := Lib.hid l2
  clear h1 h2 hr1 hr2 l1 l2
  go_enter Try.func67, Try.ntmps67
  go_wp2_with fail
  go_loopg [5, 6] n1 (fun k v i wr => CmR w n1 n2 a b k v i wr)
  case atStart => exact ⟨0, by omega, by omega, by omega, rfl, fun t ht => absurd ht (by omega), by have h := own_lit00 w 2 1; simpa [ints] using h, (Below.refl _ _).alloc (Nat.le_refl _) _⟩
  case round =>
    obtain ⟨j, hj1, hj2, hj3, rfl, hall, hown, hbw⟩ := hrel
    have hs := hbw.size
    by_cases hjn : j < n1 ∧ j < n2
    · obtain ⟨hja, hjb⟩ := hjn
      obtain ⟨x, hx⟩ := get_ex (l := a) (k := j) (by have := L1.out; omega)
      obtain ⟨y, hy⟩ := get_ex (l := b) (k := j) (by have := L2.out; omega)
      rcases R1.out with h0 | ⟨g, o, rfl, hg, hcell⟩
      · omega
      rcases R2.out with h0 | ⟨g', o', rfl, hg', hcell'⟩
      · omega
      have c1 : wr.cell? ⟨g, o + j, none⟩ = some (.int .i64 x) := (hbw.cell (p := ⟨g, o + j, none⟩) hg).trans (hcell j _ (ints_get hx))
      have c2 : wr.cell? ⟨g', o' + j, none⟩ = some (.int .i64 y) := (hbw.cell (p := ⟨g', o' + j, none⟩) hg').trans (hcell' j _ (ints_get hy))
      have hgw : g < wr.heap.size := by omega
      have hgw' : g' < wr.heap.size := by omega
      have hja' : (j : Int) < (n1 : Int) := by omega
      have hjb' : (j : Int) < (n2 : Int) := by omega
      have htk : x = y → a.take (j + 1) = a.take j ++ [x] := fun _ => take_snoc hx
      have hstop : x ≠ y → cmL a b = a.take j ++ [min x y] := fun h => cm_stop hall hx hy h
      have hall2 : x = y → ∀ t : Nat, t < j + 1 → a[t]? = b[t]? := fun h t ht => by
        by_cases e : t = j
        · subst e; rw [hx, hy, h]
        · exact hall t (by omega)
      obtain ⟨va, vc, hvv⟩ := own_slice hown
      subst hvv
      obtain ⟨m, hm⟩ : ∃ m, min x y = m := ⟨_, rfl⟩
      have hm2 : min x y = m := hm
      have kM := fun w => l00Min_any x y m hm w
      rw [hm2] at hstop
      have hm3 : x = y → m = x := fun h => by rw [← hm2, h]; omega
      have HM3 := Lib.hid hm3
      have HTK := Lib.hid htk
      have HST := Lib.hid hstop
      have HAL := Lib.hid hall2
      have KA : ∀ wa w3, Below wr.heap.size wr wa → wa.grownBy w3 (Value.ownBlock (.slice va j vc)) → Below w.heap.size w w3 ∧ w3.cell? ⟨g, o + j, none⟩ = some (.int .i64 x) ∧ w3.cell? ⟨g', o' + j, none⟩ = some (.int .i64 y) ∧ (g < w3.heap.size ∧ g' < w3.heap.size) := fun wa w3 hba hg3 => by
        have b1 := bthen hbw hba hs
        have b3 : Below w.heap.size w w3 := b1.grown hg3 b1.size (fun k hk => (hown.lt k hk).1)
        refine ⟨b3, (b3.cell (p := ⟨g, o + j, none⟩) hg).trans (hcell j _ (ints_get hx)), (b3.cell (p := ⟨g', o' + j, none⟩) hg').trans (hcell' j _ (ints_get hy)), Nat.lt_of_lt_of_le hg b3.size, Nat.lt_of_lt_of_le hg' b3.size⟩
      have KD : ∀ w9, Below wr.drew.heap.size wr.drew w9 → w9.ownsRow w.heap.size 2 1 (.slice va j vc) j (ints (a.take j)) ∧ Below wr.heap.size wr w9 ∧ wr.heap.size ≤ w9.heap.size := fun w9 hb => by
        have b2 : Below wr.heap.size wr w9 := bthen (Below.refl _ _).drew hb (Nat.le_refl _)
        exact ⟨own_below hown b2 (Nat.le_refl _), b2, b2.size⟩
      clear hx hy hcell hcell' R1 R2 hall htk hstop hall2 hm2 hm3
      by_cases hxy : x = y
      · have hall3 := HAL.out hxy
        have htk3 := HTK.out hxy
        have hm4 := HM3.out hxy
        have HTK3 := Lib.hid htk3
        have HAL3 := Lib.hid hall3
        subst hxy
        subst hm4
        clear HTK HAL HM3 HST hall3 htk3 hm
        go_upto_region 5 with fail
        go_cut [5] from 8 to 40 (fun s5 wx => ∃ g3 cap3, s5 = .slice (some ⟨g3, 0, none⟩) (j + 1) cap3 ∧ wx.ownsRow w.heap.size 2 1 (.slice (some ⟨g3, 0, none⟩) (j + 1) cap3) (j + 1) (ints (a.take j) ++ [.int .i64 m]) ∧ Below w.heap.size w wx ∧ wx.cell? ⟨g, o + j, none⟩ = some (.int .i64 m) ∧ wx.cell? ⟨g', o' + j, none⟩ = some (.int .i64 m) ∧ (g < wx.heap.size ∧ g' < wx.heap.size))
        case first =>
          go_region_law (first | (refine step_append_lies _ (by rfl) _ _ _ (by rfl) w.heap.size 2 i1 _ 1 8 Try.underlying35 hi1 hy0 hy1 hy2 (by rfl) (by decide) (.slice va j vc) j (ints (a.take j)) (by rfl) (e1.alloc _) ⟨w9.heap.size, 0, none⟩ 1 1 [.int .i64 m] (by rfl) (by rfl) (World.news_of_block (cs := #[.int .i64 m]) (t := 2) (fr := (0, 0)) (heap_alloc_new _ _)) (by simp [Value.oneCell']) (by omega) (by simp only [maxLen]; omega) (by omega) (by simp; omega) (w9.heap.size + 1) (by simp) ?_; intro g3 cap3 w3 hown3 hgr3 hat3 hlt3; obtain ⟨d1, d2, d3, d4, d5⟩ := KA _ w3 (e2.alloc e3 _) hgr3) | (go_simp; go_at_call 108; refine (kM _).mono ?_; rintro _ w9 ⟨rfl, hb_w9⟩; obtain ⟨e1, e2, e3⟩ := KD w9 hb_w9))
          all_goals go_wp2_with fail
          all_goals go_meet
          all_goals exact ⟨g3, cap3, rfl, hown3, d1, d2, d3, d4, d5⟩
        case rest =>
          obtain ⟨g3, cap3, rfl, hown3, d1, d2, d3, d4, d5⟩ := hcut
          clear c1 c2 hgw hgw' KA KD kM hown hbw hs
          go_wp2_with fail
          refine wp_region_calm (by kernel_rfl) (by kernel_rfl) ?_
          repeat (go_big_quiet_step ((fail)))
          refine wpQuiet_nil ?_
          intro w4 hb_w4
          obtain ⟨hc_w4, hf_w4, hs_w4⟩ := bcell hb_w4
          try simp at hs_w4
          have bel4 := bthen d1 hb_w4 d1.size
          have own4 := own_below hown3 hb_w4 (Nat.le_refl _)
          go_wp2
          go_roundg (gk - 1)
          case measure => omega
          case rel =>
            refine ⟨j + 1, by omega, by omega, by omega, by go_num, HAL3.out, ?_, bel4⟩
            rw [HTK3.out, ints_snoc']
            exact own4
      · have hst3 := HST.out hxy
        have HST3 := Lib.hid hst3
        have hne : (x != y) = true := by simp [hxy]
        clear HTK HAL HM3 HST hst3
        go_upto_region 5 with fail
        go_cut [5] from 8 to 40 (fun s5 wx => ∃ g3 cap3, s5 = .slice (some ⟨g3, 0, none⟩) (j + 1) cap3 ∧ wx.ownsRow w.heap.size 2 1 (.slice (some ⟨g3, 0, none⟩) (j + 1) cap3) (j + 1) (ints (a.take j) ++ [.int .i64 m]) ∧ Below w.heap.size w wx ∧ wx.cell? ⟨g, o + j, none⟩ = some (.int .i64 x) ∧ wx.cell? ⟨g', o' + j, none⟩ = some (.int .i64 y) ∧ (g < wx.heap.size ∧ g' < wx.heap.size))
        case first =>
          go_region_law (first | (refine step_append_lies _ (by rfl) _ _ _ (by rfl) w.heap.size 2 i1 _ 1 8 Try.underlying35 hi1 hy0 hy1 hy2 (by rfl) (by decide) (.slice va j vc) j (ints (a.take j)) (by rfl) (e1.alloc _) ⟨w9.heap.size, 0, none⟩ 1 1 [.int .i64 m] (by rfl) (by rfl) (World.news_of_block (cs := #[.int .i64 m]) (t := 2) (fr := (0, 0)) (heap_alloc_new _ _)) (by simp [Value.oneCell']) (by omega) (by simp only [maxLen]; omega) (by omega) (by simp; omega) (w9.heap.size + 1) (by simp) ?_; intro g3 cap3 w3 hown3 hgr3 hat3 hlt3; obtain ⟨d1, d2, d3, d4, d5⟩ := KA _ w3 (e2.alloc e3 _) hgr3) | (go_simp; go_at_call 108; refine (kM _).mono ?_; rintro _ w9 ⟨rfl, hb_w9⟩; obtain ⟨e1, e2, e3⟩ := KD w9 hb_w9))
          all_goals go_wp2_with fail
          all_goals go_meet
          all_goals exact ⟨g3, cap3, rfl, hown3, d1, d2, d3, d4, d5⟩
        case rest =>
          obtain ⟨g3, cap3, rfl, hown3, d1, d2, d3, d4, d5⟩ := hcut
          clear c1 c2 hgw hgw' KA KD kM hown hbw hs
          go_wp2_with fail
          refine wp_region_calm (by kernel_rfl) (by kernel_rfl) ?_
          repeat (go_big_quiet_step ((fail)))
          refine wpQuiet_nil ?_
          intro w4 hb_w4
          obtain ⟨hc_w4, hf_w4, hs_w4⟩ := bcell hb_w4
          try simp at hs_w4
          have bel4 := bthen d1 hb_w4 d1.size
          have own4 := own_below hown3 hb_w4 (Nat.le_refl _)
          rw [← ints_snoc'] at own4
          have hend := HST3.out
          have hco := HCO.out
          have hok := HCM.out
          rw [hend] at hco hok
          have hlj : (a.take j).length = j := by rw [List.length_take]; have := L1.out; omega
          clear HCO HCM HST3 hend
          have HCO := Lib.hid hco
          clear hco
          generalize a.take j = i at *
          subst hlj
          obtain ⟨g5, cap5, hv5, ⟨f1, f2, f3⟩, f4, f5, f6⟩ := own_last i m rfl rfl own4
          injection hv5 with hv5a hv5b hv5c
          injection hv5a with hv5a
          injection hv5a with hv5a
          subst hv5a hv5c
          by_cases hz : m = 0
          · have hi : i = [] := by
              cases i with
              | nil => rfl
              | cons y' i' => exact absurd (hok.tl m (by simp)) (by omega)
            subst hi
            have hco := HCO.out
            rw [if_pos (by rw [hz]; rfl)] at hco
            have HC2 := Lib.hid hco
            clear HCO hco
            rw [hz] at f4
            simp only [List.length_nil, Nat.zero_add] at *
            have hlit := own_lit00 w4 2 1
            clear own4 f6
            go_wp2
            go_ret
            refine ⟨_, rfl, ?_, bel4.alloc bel4.size _⟩
            rw [HC2.out]
            exact Rs.of_own hlit
          · have hco := HCO.out
            rw [if_neg (by
              intro e
              cases i with
              | nil => simp at e; exact hz e
              | cons y' i' => simp at e)] at hco
            have HC2 := Lib.hid hco
            clear HCO hco
            have hln : (i ++ [m]).length = i.length + 1 := by simp
            have hp1 : (0 : Int) < ((i.length + 1 : Nat) : Int) := by omega
            have hp2 : ((i.length + 1 : Nat) : Int) - 1 = (i.length : Int) := by omega
            have hp3 : (i.length : Int) < ((i.length + 1 : Nat) : Int) := by omega
            have hz' : (m == 0) = false := by simp [hz]
            clear own4
            go_wp2
            go_ret
            refine ⟨_, rfl, ?_, bel4⟩
            rw [HC2.out, hln]
            exact Rs.of_own f6
    · have hend : cmL a b = a.take j := cm_end hall (by have := L1.out; have := L2.out; omega)
      have hco := HCO.out
      have hok := HCM.out
      rw [hend] at hco hok
      have hlj : (a.take j).length = j := by rw [List.length_take]; have := L1.out; omega
      clear HCO HCM hend hall R1 R2
      have HCO := Lib.hid hco
      clear hco
      generalize a.take j = xs at *
      obtain ⟨va, vc, hvv⟩ := own_slice hown
      subst hvv
      rcases List.eq_nil_or_concat xs with rfl | ⟨i, z, rfl⟩
      · have hco := HCO.out
        rw [if_neg (by simp)] at hco
        have HC2 := Lib.hid hco
        clear HCO hco
        simp only [List.length_nil] at hlj
        subst hlj
        by_cases hja : 0 < n1
        · have hjb : ¬ ((0 : Int) < (n2 : Int)) := by omega
          have hja' : (0 : Int) < (n1 : Int) := by omega
          go_wp2
          go_ret
          refine ⟨_, rfl, ?_, hbw⟩
          rw [HC2.out]
          exact Rs.of_own hown
        · have hja' : ¬ ((0 : Int) < (n1 : Int)) := by omega
          go_wp2
          go_ret
          refine ⟨_, rfl, ?_, hbw⟩
          rw [HC2.out]
          exact Rs.of_own hown
      · rw [List.concat_eq_append] at *
        rw [List.length_append, List.length_singleton] at hlj
        subst hlj
        have own4 := hown
        by_cases hja : i.length + 1 < n1
        · have hjb : ¬ (((i.length + 1 : Nat) : Int) < (n2 : Int)) := by omega
          have hja' : ((i.length + 1 : Nat) : Int) < (n1 : Int) := by omega
          clear hown
          obtain ⟨g5, cap5, hv5, ⟨f1, f2, f3⟩, f4, f5, f6⟩ := own_last i z rfl rfl own4
          injection hv5 with hv5a hv5b hv5c
          subst hv5a hv5c
          by_cases hz : z = 0
          · have hi : i = [] := by
              cases i with
              | nil => rfl
              | cons y' i' => exact absurd (hok.tl z (by simp)) (by omega)
            subst hi
            have hco := HCO.out
            rw [if_pos (by rw [hz]; rfl)] at hco
            have HC2 := Lib.hid hco
            clear HCO hco
            rw [hz] at f4
            simp only [List.length_nil, Nat.zero_add] at *
            have hlit := own_lit00 wr 2 1
            clear own4 f6
            go_wp2
            go_ret
            refine ⟨_, rfl, ?_, hbw.alloc hbw.size _⟩
            rw [HC2.out]
            exact Rs.of_own hlit
          · have hco := HCO.out
            rw [if_neg (by
              intro e
              cases i with
              | nil => simp at e; exact hz e
              | cons y' i' => simp at e)] at hco
            have HC2 := Lib.hid hco
            clear HCO hco
            have hln : (i ++ [z]).length = i.length + 1 := by simp
            have hp1 : (0 : Int) < ((i.length + 1 : Nat) : Int) := by omega
            have hp2 : ((i.length + 1 : Nat) : Int) - 1 = (i.length : Int) := by omega
            have hp3 : (i.length : Int) < ((i.length + 1 : Nat) : Int) := by omega
            have hz' : (z == 0) = false := by simp [hz]
            clear own4
            go_wp2
            go_ret
            refine ⟨_, rfl, ?_, hbw⟩
            rw [HC2.out, hln]
            exact Rs.of_own f6
        · have hja' : ¬ (((i.length + 1 : Nat) : Int) < (n1 : Int)) := by omega
          clear hown
          obtain ⟨g5, cap5, hv5, ⟨f1, f2, f3⟩, f4, f5, f6⟩ := own_last i z rfl rfl own4
          injection hv5 with hv5a hv5b hv5c
          subst hv5a hv5c
          by_cases hz : z = 0
          · have hi : i = [] := by
              cases i with
              | nil => rfl
              | cons y' i' => exact absurd (hok.tl z (by simp)) (by omega)
            subst hi
            have hco := HCO.out
            rw [if_pos (by rw [hz]; rfl)] at hco
            have HC2 := Lib.hid hco
            clear HCO hco
            rw [hz] at f4
            simp only [List.length_nil, Nat.zero_add] at *
            have hlit := own_lit00 wr 2 1
            clear own4 f6
            go_wp2
            go_ret
            refine ⟨_, rfl, ?_, hbw.alloc hbw.size _⟩
            rw [HC2.out]
            exact Rs.of_own hlit
          · have hco := HCO.out
            rw [if_neg (by
              intro e
              cases i with
              | nil => simp at e; exact hz e
              | cons y' i' => simp at e)] at hco
            have HC2 := Lib.hid hco
            clear HCO hco
            have hln : (i ++ [z]).length = i.length + 1 := by simp
            have hp1 : (0 : Int) < ((i.length + 1 : Nat) : Int) := by omega
            have hp2 : ((i.length + 1 : Nat) : Int) - 1 = (i.length : Int) := by omega
            have hp3 : (i.length : Int) < ((i.length + 1 : Nat) : Int) := by omega
            have hz' : (z == 0) = false := by simp [hz]
            clear own4
            go_wp2
            go_ret
            refine ⟨_, rfl, ?_, hbw⟩
            rw [HC2.out, hln]
            exact Rs.of_own f6
end Go.Proofs.Ytlmmpeeacjbobaa
