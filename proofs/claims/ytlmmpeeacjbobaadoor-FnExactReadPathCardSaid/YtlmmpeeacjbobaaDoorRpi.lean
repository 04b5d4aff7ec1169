/-
  ReadPath of the program. Printed by mkrps.py.
-/
import Derived.Test.YtlmmpeeacjbobaaDoorRps
import Derived.Test.YtlmmpeeacjbobaaDoorPx
namespace Go.Proofs.YtlmmpeeacjbobaaDoor
open Go.RowKit

theorem splitC_any (s : ByteArray) (hs : s.size ≤ 2000000) (c : UInt8) (w : World) (hw : Rw w) : Calls Tryd.prog 66 #[.string s, .string ⟨#[c]⟩] w (RetRow w 9 1 (spB c s).length (strs (spB c s))) := by
  obtain ⟨_, ⟨m, hm⟩, _⟩ := hw
  refine (Tryd.strings_Split s ⟨#[c]⟩ m w (by omega) hm (by show 1 ≤ (#[c] : Array UInt8).size; simp)).mono ?_
  rintro _ w' ⟨rfl, rfl⟩
  have e : Lib.countB s ⟨#[c]⟩ + 1 = (spB c s).length := by
    rw [spB_len, sp_len]
    congr 1
    exact Lib.count_one c _
  rw [e, splitB_is]
  refine ⟨_, rfl, ?_, (Below.refl _ _).alloc (Nat.le_refl _) _⟩
  have z := (spB_sizes c s).1
  have h := World.ownsRow_lit (base := w.heap.size) (e := 9) (size := 1) w (strs (spB c s)).toArray (spB c s).length (Nat.le_refl _) (by simp [maxLen]; omega) (by simp [strs])
  simpa [strs] using h
def RpJ (w : World) (ws : List ByteArray) (M : Option (List Int)) (g o : Nat) (k : Nat) (v vi : Value) (wr : World) : Prop :=
  ∃ (i : Nat) (xs : List Int), i ≤ ws.length ∧ ws.length ≤ i + k ∧ vi = .int .i64 i ∧ RpI (ws.map (·.data.toList)) M i xs ∧ xs.length ≤ i + 1 ∧
    wr.ownsRow w.heap.size 2 1 v xs.length (ints xs) ∧ WrdAt wr g o ws ∧ some g ≠ v.ownBlock ∧ Below w.heap.size w wr
set_option maxHeartbeats 16000000 in
set_option maxRecDepth 100000 in
theorem readPathI_any (s : ByteArray) (hs : s.size ≤ 1048576) (w : World) (hw : Rw w) : Calls Tryd.prog 36 #[.string s] w (RetRd w (rpS s.data.toList)) := by
  rw [← rp_same]
  obtain ⟨R, hR⟩ : ∃ R, rpI s.data.toList = R := ⟨_, rfl⟩
  rw [hR]
  by_cases ht : s = ⟨#[116, 111, 112]⟩
  · have hRn : R = some [] := by
      rw [← hR, ht]; rfl
    have heq : (s.toList == [116, 111, 112]) = true := by rw [ByteArray.toList_eq, ht]; rfl
    clear ht hR
    go_enter Tryd.func36, Tryd.ntmps36
    go_wp2
    go_ret2
    exact ret_some hRn (World.ownsRow_nil _ _ _ _) (by repeat' (first | (with_reducible exact Below.refl _ _) | (with_reducible assumption) | (with_reducible refine Below.alloc ?_ ?_ _) | (with_reducible refine Below.drew ?_) | (with_reducible refine bdrewN ?_ _) | (with_reducible refine Below.setCell ?_ ?_ _) | (with_reducible refine bthen ?_ (by assumption) ?_) | go_size))
  · have hlt : s.data.toList ≠ topL := fun e => ht (ba_of_list (b := ⟨#[116, 111, 112]⟩) e)
    have heq : (s.toList == [116, 111, 112]) = false := by
      rw [beq_eq_false_iff_ne, ByteArray.toList_eq]; exact hlt
    have hRM : R = match iW (spL 32 s.data.toList) with | some rs => if (ptO rs).data.toList = s.data.toList then some rs else none | none => none := by
      rw [← hR]; unfold rpI; rw [if_neg hlt]; rfl
    obtain ⟨M, hM⟩ : ∃ M, iW (spL 32 s.data.toList) = M := ⟨_, rfl⟩
    rw [hM] at hRM
    have HR := Lib.hid hRM
    have hl := spB_list 32 s
    obtain ⟨z1, z2⟩ := spB_sizes 32 s
    have hn1 : 1 ≤ (spB 32 s).length := by
      rw [spB_len, sp_len]; omega
    have kS := splitC_any s (by omega) 32 w hw
    generalize spB 32 s = ws at *
    rw [← hl] at hM
    have hst : RpI (ws.map (·.data.toList)) M 0 [] := .inl ⟨rfl, rfl, hM⟩
    have HST := Lib.hid hst
    have Z2 := Lib.hid z2
    clear ht hR hlt hRM hM hl hst z2
    go_enter Tryd.func36, Tryd.ntmps36
    go_wp2_with fail
    apply Calls.mono
    · with_reducible exact kS
    rintro _ w1 ⟨vW, rfl, hoW, b1⟩
    obtain ⟨g, o, c, rfl, hW1, hg1, hn, hnc, hcm⟩ := WrdAt.of_own hoW hn1
    have hc' : (c : Int) ≤ 9223372036854775807 := by omega
    clear hoW kS heq hn
    go_wp2_with fail
    go_loopg [4, 14] ws.length (RpJ w ws M g o)
    case atStart => exact ⟨0, [], by omega, by omega, rfl, HST.out, by simp, World.ownsRow_nil _ _ _ _, hW1, by simp [Value.ownBlock], b1⟩
    case round =>
      obtain ⟨i, xs, hi1, hi2, rfl, hst, hxl, hown, hW, hgo, hbw⟩ := hrel
      have hsz := hbw.size
      obtain ⟨va, vc, rfl⟩ := own_slP hown
      have hwr := hw.below hbw
      by_cases hlt : i < ws.length
      · obtain ⟨x, hx⟩ := get_ex (l := ws) (k := i) hlt
        have hxs := Z2.out x (List.mem_of_getElem? hx)
        have c1 := hW.2 i x hx
        have hgl := hW.1
        have hm := get_map hx
        by_cases h2 : x.size < 2
        · have h2' : (x.size : Int) < 2 := by omega
          have hMn := rpi_short hst hm (by rw [← size_list]; exact h2)
          have hRn : R = none := by rw [HR.out, hMn]
          clear hst hm hMn
          go_wp2
          go_ret2
          exact ret_none hRn hbw
        · have h2' : ¬ (x.size : Int) < 2 := by omega
          have h2l : ¬ x.data.toList.length < 2 := by rw [← size_list]; exact h2
          have h1x : 1 ≤ x.size := by omega
          have hx0 : 0 < x.size := by omega
          have hhd := head_list hx0
          have readN : ∀ w, Rw w → Calls Tryd.prog 67 #[.string (x.extract 1 x.size)] w (Ret w (rdV (x.data.toList.drop 1))) := fun w hw => by
            have := readDecimal_any (x.extract 1 x.size) (by rw [size_list, ext1_list, List.length_drop, ← size_list]; omega) w hw
            rw [ext1_list] at this
            exact this
          by_cases hi0 : i = 0
          · subst hi0
            obtain rfl := rpi_zero hst
            have c0 : wr.cell? ⟨g, o, none⟩ = some (.string x) := by simpa using c1
            have hwr1 : IntKind.i64.wrap 1 = 1 := by decide
            have hown : wr.ownsRow w.heap.size 2 1 (.slice va 0 vc) 0 (ints []) := hown
            by_cases hL : x[0] = 76
            · obtain ⟨_, hS2⟩ := rpi_L hst hm (by rw [hhd, hL])
              have hS := rs_litP wr 0
              have hsA : w.heap.size ≤ (wr.alloc (.cells #[.int .i64 0] 2)).heap.size := by rw [World.size_alloc]; omega
              clear hst
              go_upto_region 11 with (at_builtin; refine wp_appI rfl (.tmp 29) (.tmp 30) rfl w.heap.size _ _ 0 1 ([] : List Int) [0] rfl (hown.alloc _) rfl hS (by omega) hsA ?_; intro v5 w5 hown5 hgr5 hat5)
              have WA := (hW.alloc (.cells #[.int .i64 0] 2)).grown hgr5 hgo
              have hgo5 := at_ne (by have := hW.1; rw [World.size_alloc]; omega) hgo hat5
              have bw5 := (hbw.alloc hsz _).grown hgr5 hsA (fun k hk => (hown.lt k hk).1)
              have hgl5 := WA.1
              have hs5 := bw5.size
              have hown5 : w5.ownsRow w.heap.size 2 1 v5 1 (ints [0]) := hown5
              obtain ⟨L1, hL1⟩ : ∃ L1 : Nat, L1 = 1 := ⟨1, rfl⟩
              have hown5 : w5.ownsRow w.heap.size 2 1 v5 L1 (ints [0]) := by rw [hL1]; exact hown5
              have HL1 := Lib.hid hL1
              have hLb : L1 ≤ 1 := by omega
              obtain ⟨va5, vc5, rfl⟩ := own_slP hown5
              clear hL1 hown hW hgo hbw c1 c0 hgr5 hat5 hS hsA
              have hrd := readN
              cases hr : rdM (x.data.toList.drop 1) with
              | none =>
                have hMn := iq_none hS2 hm h2l hr
                have hRn : R = none := by rw [HR.out, hMn]
                have kN := fun w h => hrd w h
                rw [rdV_none hr] at kN
                clear hS2 hm hMn hrd
                go_wp2_with fail
                apply Calls.mono
                · with_reducible exact kN _ (hw.below bw5)
                rintro _ wn ⟨rfl, hbn⟩
                have hbx := bthen bw5 hbn bw5.size
                go_wp2
                go_ret2
                exact ret_none hRn hbx
              | some n =>
                have kN := fun w h => hrd w h
                rw [rdV_some hr] at kN
                have hS3 := iq_step hS2 hm h2l hr
                have H3 := Lib.hid hS3
                clear hrd hS2 hm hr hS3
                go_wp2_with fail
                apply Calls.mono
                · with_reducible exact kN _ (hw.below bw5)
                rintro _ wn ⟨rfl, hbn⟩
                have hbx := bthen bw5 hbn bw5.size
                have ownn := own_below hown5 hbn (Nat.le_refl _)
                have Wn := (WA).below hbn
                have hS := rs_litP wn n
                have hsA : w.heap.size ≤ (wn.alloc (.cells #[.int .i64 n] 2)).heap.size := by rw [World.size_alloc]; have := hbx.size; omega
                go_wp2_with (at_builtin; refine wp_appI rfl (.tmp 40) (.tmp 42) rfl w.heap.size _ _ L1 1 [(0 : Int)] [n] rfl (ownn.alloc _) rfl hS (by omega) hsA ?_; intro v9 w9 hown9 hgr9 hat9)
                go_roundg (gk - 1)
                case measure => omega
                case rel =>
                  refine ⟨0 + 1, [(0 : Int)] ++ [n], by omega, by omega, by go_num, .inr ⟨by omega, H3.out⟩, by first | (simp; done) | (simp; omega), by have h9 := hown9; rw [HL1.out] at h9; exact h9, (Wn.alloc _).grown hgr9 hgo5, at_ne (by have := Wn.1; rw [World.size_alloc]; omega) hgo5 hat9, (hbx.alloc hbx.size _).grown hgr9 hsA (fun k hk => (ownn.lt k hk).1)⟩
            · have hS2 : (iQ ((ws.map (·.data.toList)).drop 0)).map (([] : List Int) ++ ·) = M := rpi_go hst hm (fun _ => by rw [hhd]; intro h; injection h with h; exact hL h)
              have hnl : ((x[0].toNat : Int) == 76) = false := byte_ne hL
              clear hst
              have hrd := readN
              cases hr : rdM (x.data.toList.drop 1) with
              | none =>
                have hMn := iq_none hS2 hm h2l hr
                have hRn : R = none := by rw [HR.out, hMn]
                have kN := fun w h => hrd w h
                rw [rdV_none hr] at kN
                clear hS2 hm hMn hrd
                go_wp2_with fail
                apply Calls.mono
                · with_reducible exact kN _ (hw.below hbw)
                rintro _ wn ⟨rfl, hbn⟩
                have hbx := bthen hbw hbn hbw.size
                go_wp2
                go_ret2
                exact ret_none hRn hbx
              | some n =>
                have kN := fun w h => hrd w h
                rw [rdV_some hr] at kN
                have hS3 := iq_step hS2 hm h2l hr
                have H3 := Lib.hid hS3
                clear hrd hS2 hm hr hS3
                go_wp2_with fail
                apply Calls.mono
                · with_reducible exact kN _ (hw.below hbw)
                rintro _ wn ⟨rfl, hbn⟩
                have hbx := bthen hbw hbn hbw.size
                have ownn := own_below hown hbn (Nat.le_refl _)
                have Wn := (hW).below hbn
                have hS := rs_litP wn n
                have hsA : w.heap.size ≤ (wn.alloc (.cells #[.int .i64 n] 2)).heap.size := by rw [World.size_alloc]; have := hbx.size; omega
                go_wp2_with (at_builtin; refine wp_appI rfl (.tmp 40) (.tmp 42) rfl w.heap.size _ _ 0 1 ([] : List Int) [n] rfl (ownn.alloc _) rfl hS (by omega) hsA ?_; intro v9 w9 hown9 hgr9 hat9)
                go_roundg (gk - 1)
                case measure => omega
                case rel =>
                  refine ⟨0 + 1, ([] : List Int) ++ [n], by omega, by omega, by go_num, .inr ⟨by omega, H3.out⟩, by first | (simp; done) | (simp; omega), by exact hown9, (Wn.alloc _).grown hgr9 hgo, at_ne (by have := Wn.1; rw [World.size_alloc]; omega) hgo hat9, (hbx.alloc hbx.size _).grown hgr9 hsA (fun k hk => (ownn.lt k hk).1)⟩
          · have hS2 := rpi_go hst hm (fun e => absurd e hi0)
            have hnl : ((i : Int) == 0) = false := by simp; omega
            clear hst
            have hrd := readN
            cases hr : rdM (x.data.toList.drop 1) with
            | none =>
              have hMn := iq_none hS2 hm h2l hr
              have hRn : R = none := by rw [HR.out, hMn]
              have kN := fun w h => hrd w h
              rw [rdV_none hr] at kN
              clear hS2 hm hMn hrd
              go_wp2_with fail
              apply Calls.mono
              · with_reducible exact kN _ (hw.below hbw)
              rintro _ wn ⟨rfl, hbn⟩
              have hbx := bthen hbw hbn hbw.size
              go_wp2
              go_ret2
              exact ret_none hRn hbx
            | some n =>
              have kN := fun w h => hrd w h
              rw [rdV_some hr] at kN
              have hS3 := iq_step hS2 hm h2l hr
              have H3 := Lib.hid hS3
              clear hrd hS2 hm hr hS3
              go_wp2_with fail
              apply Calls.mono
              · with_reducible exact kN _ (hw.below hbw)
              rintro _ wn ⟨rfl, hbn⟩
              have hbx := bthen hbw hbn hbw.size
              have ownn := own_below hown hbn (Nat.le_refl _)
              have Wn := (hW).below hbn
              have hS := rs_litP wn n
              have hsA : w.heap.size ≤ (wn.alloc (.cells #[.int .i64 n] 2)).heap.size := by rw [World.size_alloc]; have := hbx.size; omega
              go_wp2_with (at_builtin; refine wp_appI rfl (.tmp 40) (.tmp 42) rfl w.heap.size _ _ xs.length 1 xs [n] rfl (ownn.alloc _) rfl hS (by omega) hsA ?_; intro v9 w9 hown9 hgr9 hat9)
              go_roundg (gk - 1)
              case measure => omega
              case rel =>
                refine ⟨i + 1, xs ++ [n], by omega, by omega, by go_num, .inr ⟨by omega, H3.out⟩, by first | (simp; done) | (simp; omega), by rw [List.length_append, List.length_singleton]; exact hown9, (Wn.alloc _).grown hgr9 hgo, at_ne (by have := Wn.1; rw [World.size_alloc]; omega) hgo hat9, (hbx.alloc hbx.size _).grown hgr9 hsA (fun k hk => (ownn.lt k hk).1)⟩
      · obtain rfl : i = ws.length := by omega
        have hxl2 : xs.length ≤ 2097152 := by omega
        have hMs := rpi_end (xs := xs) (by rw [List.length_map]; exact hst) (by rw [List.length_map]; exact hn1)
        have kT := pathTextI_big (.slice va xs.length vc) xs.length xs wr hwr.tb (Rd.of_own hown) hxl2
        obtain ⟨D, hD⟩ : ∃ D, ptO xs = D := ⟨_, rfl⟩
        rw [hD] at kT
        by_cases hk : D = s
        · have hRn : R = some xs := by rw [HR.out, hMs]; simp only; rw [hD, hk, if_pos rfl]
          subst hk
          clear hst hMs hD
          go_wp2_with fail
          apply Calls.mono
          · with_reducible exact kT
          rintro _ wn ⟨rfl, hbn⟩
          have hbx := bthen hbw hbn hsz
          have ownn := own_below hown hbn (Nat.le_refl _)
          go_wp2
          go_ret2
          exact ret_some hRn ownn hbx
        · have hRn : R = none := by rw [HR.out, hMs]; simp only; rw [hD, if_neg (fun e => hk (ba_of_list e))]
          have hne := be_ne hk
          clear hst hMs hD hk
          go_wp2_with fail
          apply Calls.mono
          · with_reducible exact kT
          rintro _ wn ⟨rfl, hbn⟩
          have hbx := bthen hbw hbn hsz
          go_wp2
          go_ret2
          exact ret_none hRn hbx
end Go.Proofs.YtlmmpeeacjbobaaDoor
