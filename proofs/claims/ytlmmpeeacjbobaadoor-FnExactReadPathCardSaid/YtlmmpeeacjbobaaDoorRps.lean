/-
  ReadPath of the reference. Printed by mkrps.py.
-/
import Derived.Test.YtlmmpeeacjbobaaDoorRpq
namespace Go.Proofs.YtlmmpeeacjbobaaDoor
open Go.RowKit

def RpR (w : World) (ws : List ByteArray) (M : Option (List Int)) (g o : Nat) (k : Nat) (v vi : Value) (wr : World) : Prop :=
  ∃ (i : Nat) (xs : List Int), i ≤ ws.length ∧ ws.length ≤ i + k ∧ vi = .int .i64 i ∧ RpS (ws.map (·.data.toList)) M i xs ∧ xs.length ≤ i + 1 ∧
    wr.ownsRow w.heap.size 2 1 v xs.length (ints xs) ∧ WrdAt wr g o ws ∧ some g ≠ v.ownBlock ∧ Below w.heap.size w wr
theorem get_map {ws : List ByteArray} {i : Nat} {x : ByteArray} (h : ws[i]? = some x) : (ws.map (·.data.toList))[i]? = some x.data.toList := by simp [h]
theorem ext1_list {x : ByteArray} : (x.extract 1 x.size).data.toList = x.data.toList.drop 1 := Lib.extract_to_end x 1
theorem ltC_even {t : Nat} (h : t % 2 = 0) : ltC t = 82 := by unfold ltC; rw [if_pos h]
theorem ltC_odd {t : Nat} (h : ¬ t % 2 = 0) : ltC t = 76 := by unfold ltC; rw [if_neg h]
theorem byte_ne {a b : UInt8} (h : ¬ a = b) : ((a.toNat : Int) == (b.toNat : Int)) = false := by
  rw [beq_eq_false_iff_ne]
  intro e
  exact h (UInt8.toNat_inj.1 (by omega))
theorem byte_nb {a b : UInt8} (h : ¬ a = b) : ((a.toNat : Int) != (b.toNat : Int)) = true := by
  unfold bne
  rw [byte_ne h]
  rfl
set_option maxHeartbeats 16000000 in
set_option maxRecDepth 100000 in
theorem readPathS_any (s : ByteArray) (hs : s.size ≤ 1048576) (w : World) : Calls Tryd.prog 35 #[.string s] w (RetRd w (rpS s.data.toList)) := by
  obtain ⟨R, hR⟩ : ∃ R, rpS s.data.toList = R := ⟨_, rfl⟩
  rw [hR]
  by_cases ht : s = ⟨#[116, 111, 112]⟩
  · have hRn : R = some [] := by
      rw [← hR, ht]; rfl
    have heq : (s.toList == [116, 111, 112]) = true := by rw [ByteArray.toList_eq, ht]; rfl
    clear ht hR
    go_enter Tryd.func35, Tryd.ntmps35
    go_wp2
    go_ret2
    exact ret_some hRn (World.ownsRow_lit w #[] 0 (Nat.le_refl _) (by simp [maxLen]) (by simp)) (by repeat' (first | (with_reducible exact Below.refl _ _) | (with_reducible assumption) | (with_reducible refine Below.alloc ?_ ?_ _) | (with_reducible refine Below.drew ?_) | (with_reducible refine bdrewN ?_ _) | (with_reducible refine Below.setCell ?_ ?_ _) | (with_reducible refine bthen ?_ (by assumption) ?_) | go_size))
  · have hlt : s.data.toList ≠ topL := fun e => ht (ba_of_list (b := ⟨#[116, 111, 112]⟩) e)
    have heq : (s.toList == [116, 111, 112]) = false := by
      rw [beq_eq_false_iff_ne, ByteArray.toList_eq]; exact hlt
    have hRM : R = match sW (spL 32 s.data.toList) with | some rs => if okR rs then some rs else none | none => none := by
      rw [← hR]; unfold rpS; rw [if_neg hlt]; rfl
    obtain ⟨M, hM⟩ : ∃ M, sW (spL 32 s.data.toList) = M := ⟨_, rfl⟩
    rw [hM] at hRM
    have HR := Lib.hid hRM
    have hl := spB_list 32 s
    obtain ⟨z1, z2⟩ := spB_sizes 32 s
    have hn1 : 1 ≤ (spB 32 s).length := by
      rw [spB_len, sp_len]; omega
    have kS : ∀ w, Calls Tryd.prog 64 #[.string s, .int .u8 32] w (RetRow w 9 1 (spB 32 s).length (strs (spB 32 s))) := fun w => l01Split_any s (by omega) 32 w
    generalize spB 32 s = ws at *
    rw [← hl] at hM
    have hst : RpS (ws.map (·.data.toList)) M 0 [] := .inl ⟨rfl, rfl, hM⟩
    have HST := Lib.hid hst
    have Z2 := Lib.hid z2
    clear ht hR hlt hRM hM hl hst z2
    have o0 : (w.alloc (.cells #[] 2)).ownsRow w.heap.size 2 1 (.slice (some ⟨w.heap.size, 0, none⟩) 0 0) 0 [] := World.ownsRow_lit w #[] 0 (Nat.le_refl _) (by simp [maxLen]) (by simp)
    have b0 : Below w.heap.size w (w.alloc (.cells #[] 2)) := (Below.refl _ _).alloc (Nat.le_refl _) _
    go_enter Tryd.func35, Tryd.ntmps35
    go_wp2_with fail
    apply Calls.mono
    · with_reducible exact kS _
    rintro _ w1 ⟨vW, rfl, hoW, hb1⟩
    obtain ⟨g, o, c, rfl, hW1, hg1, hn, hnc, hcm⟩ := WrdAt.of_own hoW hn1
    rw [World.size_alloc] at hg1
    have o1 := own_below o0 hb1 (Nat.le_refl _)
    have b1 := bthen b0 hb1 b0.size
    have hc' : (c : Int) ≤ 9223372036854775807 := by omega
    clear hoW o0 b0 hb1 kS heq hn
    go_wp2_with fail
    go_loopg [4, 6] ws.length (RpR w ws M g o)
    case atStart => exact ⟨0, [], by omega, by omega, rfl, HST.out, by simp, o1, hW1, by simp [Value.ownBlock]; omega, b1⟩
    case round =>
      obtain ⟨i, xs, hi1, hi2, rfl, hst, hxl, hown, hW, hgo, hbw⟩ := hrel
      have hsz := hbw.size
      obtain ⟨va, vc, rfl⟩ := own_slP hown
      by_cases hlt : i < ws.length
      · obtain ⟨x, hx⟩ := get_ex (l := ws) (k := i) hlt
        have hxs := Z2.out x (List.mem_of_getElem? hx)
        have c1 := hW.2 i x hx
        have hgl := hW.1
        have hm := get_map hx
        by_cases h2 : x.size < 2
        · have h2' : (x.size : Int) < 2 := by omega
          have hMn := rps_short hst hm (by rw [← size_list]; exact h2)
          have hRn : R = none := by rw [HR.out, hMn]
          clear hst hm hMn
          go_wp2
          go_ret2
          exact ret_none hRn hbw
        · have h2' : ¬ (x.size : Int) < 2 := by omega
          have h2l : ¬ x.data.toList.length < 2 := by rw [← size_list]; exact h2
          have h1x : 1 ≤ x.size := by omega
          have hx0 : 0 < x.size := by omega
          have hhd := head_list hx0
          have readN : ∀ w, Calls Tryd.prog 65 #[.string (x.extract 1 x.size)] w (Ret w (rdV (x.data.toList.drop 1))) := fun w => by
            have := l01Number_any (x.extract 1 x.size) (by rw [size_list, ext1_list, List.length_drop, ← size_list]; omega) w
            rw [ext1_list] at this
            exact this
          by_cases hi0 : i = 0
          · subst hi0
            obtain rfl := rps_zero hst
            have c0 : wr.cell? ⟨g, o, none⟩ = some (.string x) := by simpa using c1
            have hwr1 : IntKind.i64.wrap 1 = 1 := by decide
            have hown : wr.ownsRow w.heap.size 2 1 (.slice va 0 vc) 0 (ints []) := hown
            by_cases hL : x[0] = 76
            · obtain ⟨_, hS2⟩ := rps_L hst hm (by rw [hhd, hL])
              have hS := rs_litP wr 0
              have hsA : w.heap.size ≤ (wr.alloc (.cells #[.int .i64 0] 2)).heap.size := by rw [World.size_alloc]; omega
              clear hst
              go_upto_region 12 with (at_builtin; refine wp_appI rfl (.tmp 38) (.tmp 39) rfl w.heap.size _ _ 0 1 ([] : List Int) [0] rfl (hown.alloc _) rfl hS (by omega) hsA ?_; intro v5 w5 hown5 hgr5 hat5)
              have WA := (hW.alloc (.cells #[.int .i64 0] 2)).grown hgr5 hgo
              have hgo5 := at_ne (by have := hW.1; rw [World.size_alloc]; omega) hgo hat5
              have bw5 := (hbw.alloc hsz _).grown hgr5 hsA (fun k hk => (hown.lt k hk).1)
              have c5 : w5.cell? ⟨g, o, none⟩ = some (.string x) := by simpa using WA.2 0 x hx
              have hgl5 := WA.1
              have hs5 := bw5.size
              have hown5 : w5.ownsRow w.heap.size 2 1 v5 1 (ints [0]) := hown5
              obtain ⟨L1, hL1⟩ : ∃ L1 : Nat, L1 = 1 := ⟨1, rfl⟩
              have hown5 : w5.ownsRow w.heap.size 2 1 v5 L1 (ints [0]) := by rw [hL1]; exact hown5
              have HL1 := Lib.hid hL1
              have hLb : L1 ≤ 1 := by omega
              have hpi : ((L1 : Int).tmod 2) = 1 := by rw [hL1]; rfl
              obtain ⟨va5, vc5, rfl⟩ := own_slP hown5
              clear hL1
              clear hown hW hgo hbw c1 c0 hgr5 hat5 hS hsA
              have hrd := readN
              cases hr : rdM (x.data.toList.drop 1) with
              | none =>
                have hMn := sq_none hS2 hm h2l hr
                have hRn : R = none := by rw [HR.out, hMn]
                have kN := fun w => hrd w
                rw [rdV_none hr] at kN
                clear hS2 hm hMn hrd
                go_wp2_with fail
                apply Calls.mono
                · with_reducible exact kN _
                rintro _ wn ⟨rfl, hbn⟩
                have hbx := bthen bw5 hbn bw5.size
                have Wn := (WA).below hbn
                have cn := Wn.2 0 x hx
                have cn0 := (by simpa using cn : wn.cell? ⟨g, o, none⟩ = some (.string x))
                go_wp2
                go_ret2
                exact ret_none hRn hbx
              | some n =>
                have kN := fun w => hrd w
                rw [rdV_some hr] at kN
                clear hrd
                by_cases hn0 : n = 0
                · have hMn := sq_bad hS2 hm h2l hr (.inl hn0)
                  have hRn : R = none := by rw [HR.out, hMn]
                  clear hS2 hm hMn hr
                  go_wp2_with fail
                  apply Calls.mono
                  · with_reducible exact kN _
                  rintro _ wn ⟨rfl, hbn⟩
                  have hbx := bthen bw5 hbn bw5.size
                  have Wn := (WA).below hbn
                  have cn := Wn.2 0 x hx
                  have cn0 := (by simpa using cn : wn.cell? ⟨g, o, none⟩ = some (.string x))
                  go_wp2
                  go_ret2
                  exact ret_none hRn hbx
                · have hn0' : (n == 0) = false := by simpa using hn0
                  by_cases hsg : x[0] = ltC 1
                  · have hS3 := sq_step hS2 hm h2l hr hn0 (by rw [hhd, hsg])
                    have H3 := Lib.hid hS3
                    clear hS2 hm hr hS3
                    rw [ltC_odd (by decide)] at hsg
                    go_wp2_with fail
                    apply Calls.mono
                    · with_reducible exact kN _
                    rintro _ wn ⟨rfl, hbn⟩
                    have hbx := bthen bw5 hbn bw5.size
                    have ownn := own_below hown5 hbn (Nat.le_refl _)
                    have Wn := (WA).below hbn
                    have cn := Wn.2 0 x hx
                    have cn0 := (by simpa using cn : wn.cell? ⟨g, o, none⟩ = some (.string x))
                    have hS := rs_litP wn n
                    have hsA : w.heap.size ≤ (wn.alloc (.cells #[.int .i64 n] 2)).heap.size := by rw [World.size_alloc]; have := hbx.size; omega
                    go_wp2_with (at_builtin; refine wp_appI rfl (.tmp 69) (.tmp 71) rfl w.heap.size _ _ L1 1 [(0 : Int)] [n] rfl (ownn.alloc _) rfl hS (by omega) hsA ?_; intro v9 w9 hown9 hgr9 hat9)
                    go_roundg (gk - 1)
                    case measure => omega
                    case rel =>
                      refine ⟨0 + 1, [(0 : Int)] ++ [n], by omega, by omega, by go_num, .inr ⟨by omega, by rw [List.length_append, List.length_singleton]; exact H3.out⟩, by first | (simp; done) | (simp; omega), by have h9 := hown9; rw [HL1.out] at h9; exact h9, (Wn.alloc _).grown hgr9 hgo5, at_ne (by have := Wn.1; rw [World.size_alloc]; omega) hgo5 hat9, (hbx.alloc hbx.size _).grown hgr9 hsA (fun k hk => (ownn.lt k hk).1)⟩
                  · exact (hsg (hL.trans (ltC_odd (t := 1) (by decide)).symm)).elim
            · have hS2 : (sQ 0 ((ws.map (·.data.toList)).drop 0)).map (([] : List Int) ++ ·) = M := rps_go hst hm (fun _ => by rw [hhd]; intro h; injection h with h; exact hL h)
              have hnl : ((x[0].toNat : Int) == 76) = false := byte_ne hL
              clear hst
              have hrd := readN
              cases hr : rdM (x.data.toList.drop 1) with
              | none =>
                have hMn := sq_none hS2 hm h2l hr
                have hRn : R = none := by rw [HR.out, hMn]
                have kN := fun w => hrd w
                rw [rdV_none hr] at kN
                clear hS2 hm hMn hrd
                go_wp2_with fail
                apply Calls.mono
                · with_reducible exact kN _
                rintro _ wn ⟨rfl, hbn⟩
                have hbx := bthen hbw hbn hbw.size
                have Wn := (hW).below hbn
                have cn := Wn.2 0 x hx
                have cn0 := (by simpa using cn : wn.cell? ⟨g, o, none⟩ = some (.string x))
                go_wp2
                go_ret2
                exact ret_none hRn hbx
              | some n =>
                have kN := fun w => hrd w
                rw [rdV_some hr] at kN
                clear hrd
                by_cases hn0 : n = 0
                · have hMn := sq_bad hS2 hm h2l hr (.inl hn0)
                  have hRn : R = none := by rw [HR.out, hMn]
                  clear hS2 hm hMn hr
                  go_wp2_with fail
                  apply Calls.mono
                  · with_reducible exact kN _
                  rintro _ wn ⟨rfl, hbn⟩
                  have hbx := bthen hbw hbn hbw.size
                  have Wn := (hW).below hbn
                  have cn := Wn.2 0 x hx
                  have cn0 := (by simpa using cn : wn.cell? ⟨g, o, none⟩ = some (.string x))
                  go_wp2
                  go_ret2
                  exact ret_none hRn hbx
                · have hn0' : (n == 0) = false := by simpa using hn0
                  by_cases hsg : x[0] = ltC 0
                  · have hS3 := sq_step hS2 hm h2l hr hn0 (by rw [hhd, hsg])
                    have H3 := Lib.hid hS3
                    clear hS2 hm hr hS3
                    rw [ltC_even (by decide)] at hsg
                    go_wp2_with fail
                    apply Calls.mono
                    · with_reducible exact kN _
                    rintro _ wn ⟨rfl, hbn⟩
                    have hbx := bthen hbw hbn hbw.size
                    have ownn := own_below hown hbn (Nat.le_refl _)
                    have Wn := (hW).below hbn
                    have cn := Wn.2 0 x hx
                    have cn0 := (by simpa using cn : wn.cell? ⟨g, o, none⟩ = some (.string x))
                    have hS := rs_litP wn n
                    have hsA : w.heap.size ≤ (wn.alloc (.cells #[.int .i64 n] 2)).heap.size := by rw [World.size_alloc]; have := hbx.size; omega
                    go_wp2_with (at_builtin; refine wp_appI rfl (.tmp 69) (.tmp 71) rfl w.heap.size _ _ 0 1 ([] : List Int) [n] rfl (ownn.alloc _) rfl hS (by omega) hsA ?_; intro v9 w9 hown9 hgr9 hat9)
                    go_roundg (gk - 1)
                    case measure => omega
                    case rel =>
                      refine ⟨0 + 1, ([] : List Int) ++ [n], by omega, by omega, by go_num, .inr ⟨by omega, by rw [List.length_append, List.length_singleton]; exact H3.out⟩, by first | (simp; done) | (simp; omega), by exact hown9, (Wn.alloc _).grown hgr9 hgo, at_ne (by have := Wn.1; rw [World.size_alloc]; omega) hgo hat9, (hbx.alloc hbx.size _).grown hgr9 hsA (fun k hk => (ownn.lt k hk).1)⟩
                  · have hMn := sq_bad hS2 hm h2l hr (.inr (by rw [hhd]; intro e; injection e with e; exact hsg e))
                    have hRn : R = none := by rw [HR.out, hMn]
                    clear hS2 hm hMn hr
                    rw [ltC_even (by decide)] at hsg
                    have hsb : ((x[0].toNat : Int) != 82) = true := byte_nb hsg
                    go_wp2_with fail
                    apply Calls.mono
                    · with_reducible exact kN _
                    rintro _ wn ⟨rfl, hbn⟩
                    have hbx := bthen hbw hbn hbw.size
                    have Wn := (hW).below hbn
                    have cn := Wn.2 0 x hx
                    have cn0 := (by simpa using cn : wn.cell? ⟨g, o, none⟩ = some (.string x))
                    go_wp2
                    go_ret2
                    exact ret_none hRn hbx
          · have hS2 := rps_go hst hm (fun e => absurd e hi0)
            have hnl : ((i : Int) == 0) = false := by simp; omega
            clear hst
            have hrd := readN
            cases hr : rdM (x.data.toList.drop 1) with
            | none =>
              have hMn := sq_none hS2 hm h2l hr
              have hRn : R = none := by rw [HR.out, hMn]
              have kN := fun w => hrd w
              rw [rdV_none hr] at kN
              clear hS2 hm hMn hrd
              by_cases hpar : xs.length % 2 = 0
              · have hpi : ((xs.length : Int).tmod 2) = 0 := by rw [Int.tmod_eq_emod_of_nonneg (by omega)]; omega
                go_wp2_with fail
                apply Calls.mono
                · with_reducible exact kN _
                rintro _ wn ⟨rfl, hbn⟩
                have hbx := bthen hbw hbn hbw.size
                have Wn := (hW).below hbn
                have cn := Wn.2 i x hx
                have cn0 := cn
                go_wp2
                go_ret2
                exact ret_none hRn hbx
              · have hpi : ((xs.length : Int).tmod 2) = 1 := by rw [Int.tmod_eq_emod_of_nonneg (by omega)]; omega
                go_wp2_with fail
                apply Calls.mono
                · with_reducible exact kN _
                rintro _ wn ⟨rfl, hbn⟩
                have hbx := bthen hbw hbn hbw.size
                have Wn := (hW).below hbn
                have cn := Wn.2 i x hx
                have cn0 := cn
                go_wp2
                go_ret2
                exact ret_none hRn hbx
            | some n =>
              have kN := fun w => hrd w
              rw [rdV_some hr] at kN
              clear hrd
              by_cases hn0 : n = 0
              · have hMn := sq_bad hS2 hm h2l hr (.inl hn0)
                have hRn : R = none := by rw [HR.out, hMn]
                clear hS2 hm hMn hr
                by_cases hpar : xs.length % 2 = 0
                · have hpi : ((xs.length : Int).tmod 2) = 0 := by rw [Int.tmod_eq_emod_of_nonneg (by omega)]; omega
                  go_wp2_with fail
                  apply Calls.mono
                  · with_reducible exact kN _
                  rintro _ wn ⟨rfl, hbn⟩
                  have hbx := bthen hbw hbn hbw.size
                  have Wn := (hW).below hbn
                  have cn := Wn.2 i x hx
                  have cn0 := cn
                  go_wp2
                  go_ret2
                  exact ret_none hRn hbx
                · have hpi : ((xs.length : Int).tmod 2) = 1 := by rw [Int.tmod_eq_emod_of_nonneg (by omega)]; omega
                  go_wp2_with fail
                  apply Calls.mono
                  · with_reducible exact kN _
                  rintro _ wn ⟨rfl, hbn⟩
                  have hbx := bthen hbw hbn hbw.size
                  have Wn := (hW).below hbn
                  have cn := Wn.2 i x hx
                  have cn0 := cn
                  go_wp2
                  go_ret2
                  exact ret_none hRn hbx
              · have hn0' : (n == 0) = false := by simpa using hn0
                by_cases hsg : x[0] = ltC xs.length
                · have hS3 := sq_step hS2 hm h2l hr hn0 (by rw [hhd, hsg])
                  have H3 := Lib.hid hS3
                  clear hS2 hm hr hS3
                  by_cases hpar : xs.length % 2 = 0
                  · have hpi : ((xs.length : Int).tmod 2) = 0 := by rw [Int.tmod_eq_emod_of_nonneg (by omega)]; omega
                    rw [ltC_even hpar] at hsg
                    go_wp2_with fail
                    apply Calls.mono
                    · with_reducible exact kN _
                    rintro _ wn ⟨rfl, hbn⟩
                    have hbx := bthen hbw hbn hbw.size
                    have ownn := own_below hown hbn (Nat.le_refl _)
                    have Wn := (hW).below hbn
                    have cn := Wn.2 i x hx
                    have cn0 := cn
                    have hS := rs_litP wn n
                    have hsA : w.heap.size ≤ (wn.alloc (.cells #[.int .i64 n] 2)).heap.size := by rw [World.size_alloc]; have := hbx.size; omega
                    go_wp2_with (at_builtin; refine wp_appI rfl (.tmp 69) (.tmp 71) rfl w.heap.size _ _ xs.length 1 xs [n] rfl (ownn.alloc _) rfl hS (by omega) hsA ?_; intro v9 w9 hown9 hgr9 hat9)
                    go_roundg (gk - 1)
                    case measure => omega
                    case rel =>
                      refine ⟨i + 1, xs ++ [n], by omega, by omega, by go_num, .inr ⟨by omega, by rw [List.length_append, List.length_singleton]; exact H3.out⟩, by first | (simp; done) | (simp; omega), by rw [List.length_append, List.length_singleton]; exact hown9, (Wn.alloc _).grown hgr9 hgo, at_ne (by have := Wn.1; rw [World.size_alloc]; omega) hgo hat9, (hbx.alloc hbx.size _).grown hgr9 hsA (fun k hk => (ownn.lt k hk).1)⟩
                  · have hpi : ((xs.length : Int).tmod 2) = 1 := by rw [Int.tmod_eq_emod_of_nonneg (by omega)]; omega
                    rw [ltC_odd hpar] at hsg
                    go_wp2_with fail
                    apply Calls.mono
                    · with_reducible exact kN _
                    rintro _ wn ⟨rfl, hbn⟩
                    have hbx := bthen hbw hbn hbw.size
                    have ownn := own_below hown hbn (Nat.le_refl _)
                    have Wn := (hW).below hbn
                    have cn := Wn.2 i x hx
                    have cn0 := cn
                    have hS := rs_litP wn n
                    have hsA : w.heap.size ≤ (wn.alloc (.cells #[.int .i64 n] 2)).heap.size := by rw [World.size_alloc]; have := hbx.size; omega
                    go_wp2_with (at_builtin; refine wp_appI rfl (.tmp 69) (.tmp 71) rfl w.heap.size _ _ xs.length 1 xs [n] rfl (ownn.alloc _) rfl hS (by omega) hsA ?_; intro v9 w9 hown9 hgr9 hat9)
                    go_roundg (gk - 1)
                    case measure => omega
                    case rel =>
                      refine ⟨i + 1, xs ++ [n], by omega, by omega, by go_num, .inr ⟨by omega, by rw [List.length_append, List.length_singleton]; exact H3.out⟩, by first | (simp; done) | (simp; omega), by rw [List.length_append, List.length_singleton]; exact hown9, (Wn.alloc _).grown hgr9 hgo, at_ne (by have := Wn.1; rw [World.size_alloc]; omega) hgo hat9, (hbx.alloc hbx.size _).grown hgr9 hsA (fun k hk => (ownn.lt k hk).1)⟩
                · have hMn := sq_bad hS2 hm h2l hr (.inr (by rw [hhd]; intro e; injection e with e; exact hsg e))
                  have hRn : R = none := by rw [HR.out, hMn]
                  clear hS2 hm hMn hr
                  by_cases hpar : xs.length % 2 = 0
                  · have hpi : ((xs.length : Int).tmod 2) = 0 := by rw [Int.tmod_eq_emod_of_nonneg (by omega)]; omega
                    rw [ltC_even hpar] at hsg
                    have hsb : ((x[0].toNat : Int) != 82) = true := byte_nb hsg
                    go_wp2_with fail
                    apply Calls.mono
                    · with_reducible exact kN _
                    rintro _ wn ⟨rfl, hbn⟩
                    have hbx := bthen hbw hbn hbw.size
                    have Wn := (hW).below hbn
                    have cn := Wn.2 i x hx
                    have cn0 := cn
                    go_wp2
                    go_ret2
                    exact ret_none hRn hbx
                  · have hpi : ((xs.length : Int).tmod 2) = 1 := by rw [Int.tmod_eq_emod_of_nonneg (by omega)]; omega
                    rw [ltC_odd hpar] at hsg
                    have hsb : ((x[0].toNat : Int) != 76) = true := byte_nb hsg
                    go_wp2_with fail
                    apply Calls.mono
                    · with_reducible exact kN _
                    rintro _ wn ⟨rfl, hbn⟩
                    have hbx := bthen hbw hbn hbw.size
                    have Wn := (hW).below hbn
                    have cn := Wn.2 i x hx
                    have cn0 := cn
                    go_wp2
                    go_ret2
                    exact ret_none hRn hbx
      · obtain rfl : i = ws.length := by omega
        have hxl2 : xs.length ≤ 2097152 := by omega
        have hMs := rps_end (xs := xs) (by rw [List.length_map]; exact hst) (by rw [List.length_map]; exact hn1)
        have kO := fun r hr w' (hb : Below wr.heap.size wr w') => l05Ok_big (.slice va xs.length vc) xs.length xs w' ((Rd.of_own hown).below hb (Nat.le_refl _)) hxl2 r hr
        cases hk : okR xs
        · have hRn : R = none := by rw [HR.out, hMs]; simp only; rw [hk]; rfl
          have kO2 := kO false hk
          clear hst hMs kO hk
          go_wp2_with fail
          apply Calls.mono
          · with_reducible exact kO2 _ (Below.refl _ _)
          rintro _ wn ⟨rfl, hbn⟩
          have hbx := bthen hbw hbn hsz
          go_wp2
          go_ret2
          exact ret_none hRn hbx
        · have hRn : R = some xs := by rw [HR.out, hMs]; simp only; rw [hk]; rfl
          have kO2 := kO true hk
          clear hst hMs kO hk
          go_wp2_with fail
          apply Calls.mono
          · with_reducible exact kO2 _ (Below.refl _ _)
          rintro _ wn ⟨rfl, hbn⟩
          have hbx := bthen hbw hbn hsz
          have ownn := own_below hown hbn (Nat.le_refl _)
          go_wp2
          go_ret2
          exact ret_some hRn ownn hbx
end Go.Proofs.YtlmmpeeacjbobaaDoor
