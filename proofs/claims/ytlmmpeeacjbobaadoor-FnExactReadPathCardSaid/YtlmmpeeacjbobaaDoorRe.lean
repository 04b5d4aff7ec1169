/-
  l01Number of the reference: the number whose decimal text it is.
-/
import Derived.Test.YtlmmpeeacjbobaaDoorRd
import Derived.Deep.Cut
namespace Go.Proofs.YtlmmpeeacjbobaaDoor
open Go.RowKit

theorem l01Digit_any (c : UInt8) (w : World) : Calls Tryd.prog 75 #[.int .u8 (c.toNat : Int)] w (Ret w (.bool (isDg c))) := by
  by_cases h1 : 48 ≤ c.toNat
  · by_cases h2 : c.toNat ≤ 57
    · rw [isDg_iff.2 ⟨h1, h2⟩]
      go_enter Tryd.func75, Tryd.ntmps75
      go_wp2
      go_ret
      refine ⟨by first | rfl | ((simp; omega)), ?_⟩
      repeat' (first | (with_reducible exact Below.refl _ _) | (with_reducible assumption) | (with_reducible refine Below.alloc ?_ ?_ _) | (with_reducible refine Below.drew ?_) | (with_reducible refine bdrewN ?_ _) | (with_reducible refine Below.setCell ?_ ?_ _) | (with_reducible refine bthen ?_ (by assumption) ?_) | go_size)
    · have e : isDg c = false := by unfold isDg; rw [decide_eq_false h2, Bool.and_false]
      rw [e]
      go_enter Tryd.func75, Tryd.ntmps75
      go_wp2
      go_ret
      refine ⟨by first | rfl | ((simp; omega)), ?_⟩
      repeat' (first | (with_reducible exact Below.refl _ _) | (with_reducible assumption) | (with_reducible refine Below.alloc ?_ ?_ _) | (with_reducible refine Below.drew ?_) | (with_reducible refine bdrewN ?_ _) | (with_reducible refine Below.setCell ?_ ?_ _) | (with_reducible refine bthen ?_ (by assumption) ?_) | go_size)
  · have e : isDg c = false := by unfold isDg; rw [decide_eq_false h1, Bool.false_and]
    rw [e]
    go_enter Tryd.func75, Tryd.ntmps75
    go_wp2
    go_ret
    refine ⟨by first | rfl | ((simp; omega)), ?_⟩
    repeat' (first | (with_reducible exact Below.refl _ _) | (with_reducible assumption) | (with_reducible refine Below.alloc ?_ ?_ _) | (with_reducible refine Below.drew ?_) | (with_reducible refine bdrewN ?_ _) | (with_reducible refine Below.setCell ?_ ?_ _) | (with_reducible refine bthen ?_ (by assumption) ?_) | go_size)
def NumR (w : World) (T : ByteArray) (k : Nat) (vn vi : Value) (wr : World) : Prop :=
  ∃ j : Nat, j ≤ T.size ∧ T.size ≤ j + k ∧ vi = .int .i64 (j : Nat) ∧ vn = .int .i64 (dgV 0 (T.data.toList.take j) : Nat) ∧ (∀ c ∈ T.data.toList.take j, isDg c = true) ∧ Below w.heap.size w wr
theorem take_next {T : ByteArray} {j : Nat} (h : j < T.size) : T.data.toList.take (j + 1) = T.data.toList.take j ++ [T[j]] := by
  rw [List.take_succ_eq_append_getElem (by rw [← size_list]; exact h)]; rfl
theorem take_all (T : ByteArray) : T.data.toList.take T.size = T.data.toList := by rw [size_list, List.take_length]
theorem dg_small {T : ByteArray} {j : Nat} (h : ∀ c ∈ T.data.toList.take j, isDg c = true) (hj : j ≤ T.size) : dgV 0 (T.data.toList.take j) < 10 ^ j := by
  have := dgV_lt (T.data.toList.take j) 0 0 h (by decide)
  rw [List.length_take, ← size_list, Nat.min_eq_left hj, Nat.zero_add] at this
  exact this
theorem pow_le17 {j : Nat} (h : j ≤ 17) : 10 ^ j ≤ 100000000000000000 := Nat.pow_le_pow_right (by decide) h
theorem pow_le18 {j : Nat} (h : j ≤ 18) : 10 ^ j ≤ 1000000000000000000 := Nat.pow_le_pow_right (by decide) h
theorem mem_list {T : ByteArray} {j : Nat} (h : j < T.size) : T[j] ∈ T.data.toList := Array.mem_toList_iff.2 (Array.getElem_mem h)
theorem head_list {s : ByteArray} (h : 0 < s.size) : s.data.toList.head? = some s[0] := by
  rw [List.head?_eq_getElem?, List.getElem?_eq_getElem (by rw [← size_list]; exact h)]; rfl
theorem mag_minus {s : ByteArray} (h : 0 < s.size) (h1 : s[0] = 45) : magL s.data.toList = (s.extract 1 s.size).data.toList ∧ nmL s.data.toList = -(dgV 0 (s.extract 1 s.size).data.toList : Nat) ∧ (s.extract 1 s.size).size = s.size - 1 := by
  have e : (s.extract 1 s.size).data.toList = s.data.toList.drop 1 := Lib.extract_to_end s 1
  have e2 := head_list h
  rw [h1] at e2
  unfold magL nmL
  rw [if_pos e2, if_pos e2, e]
  exact ⟨rfl, rfl, by simp [ByteArray.size_extract]⟩
theorem mag_plain {s : ByteArray} (h : 0 < s.size) (h1 : ¬ s[0] = 45) : magL s.data.toList = s.data.toList ∧ nmL s.data.toList = (dgV 0 s.data.toList : Nat) := by
  have e2 := head_list h
  have e3 : ¬ s.data.toList.head? = some 45 := by rw [e2]; intro e; injection e with e; exact h1 e
  unfold magL nmL
  rw [if_neg e3, if_neg e3]
  exact ⟨rfl, rfl⟩
set_option maxHeartbeats 4000000 in
theorem l01Number_any (s : ByteArray) (hs : s.size ≤ 2000000) (w : World) : Calls Tryd.prog 65 #[.string s] w (Ret w (rdV s.data.toList)) := by
  by_cases h0 : s.size = 0
  · have hl : s.data.toList = [] := List.length_eq_zero_iff.1 (by rw [← size_list]; exact h0)
    have hA : s.toList = [] := by rw [ByteArray.toList_eq]; exact hl
    have hB : s.toList.isEmpty = true := by rw [hA]; rfl
    have hC : ¬ (1 : Int) ≤ (s.size : Int) := by omega
    rw [rdV_none (rd_empty (by rw [hl]; decide))]
    clear hl
    go_enter Tryd.func65, Tryd.ntmps65
    go_wp2
    go_ret2
    refine ⟨by first | rfl | (simp), ?_⟩
    repeat' (first | (with_reducible exact Below.refl _ _) | (with_reducible assumption) | (with_reducible refine Below.alloc ?_ ?_ _) | (with_reducible refine Below.drew ?_) | (with_reducible refine bdrewN ?_ _) | (with_reducible refine Below.setCell ?_ ?_ _) | (with_reducible refine bthen ?_ (by assumption) ?_) | go_size)
  · have hA : ¬ s.toList = [] := by
      rw [ByteArray.toList_eq]
      intro e
      have := size_list s
      rw [e, List.length_nil] at this; omega
    have hB : s.toList.isEmpty = false := by
      cases e : s.toList.isEmpty
      · rfl
      · exact absurd (List.isEmpty_iff.1 e) hA
    have h0' : 0 < s.size := by omega
    have kG := fun c w => l01Digit_any c w
    obtain ⟨R, hR⟩ : ∃ R, rdV s.data.toList = R := ⟨_, rfl⟩
    rw [hR]
    have HR := Lib.hid hR
    clear hR
    by_cases h1 : (s[0]'(by omega)) = 45
    · obtain ⟨hM, hN, hTs⟩ := mag_minus h0' h1
      go_enter Tryd.func65, Tryd.ntmps65
      go_upto_region 4 with fail
      generalize hT : s.extract 1 s.size = T at *
      clear hT h1 hA hB
      by_cases hlo : T.size < 1
      · have hlo' : ¬ (1 : Int) ≤ (T.size : Int) := by omega
        obtain rfl := (rdV_none (rd_empty (by rw [hM, ← size_list]; exact hlo))).symm.trans HR.out
        clear hM hN HR
        go_wp2
        go_ret2
        refine ⟨by first | rfl | (simp), ?_⟩
        repeat' (first | (with_reducible exact Below.refl _ _) | (with_reducible assumption) | (with_reducible refine Below.alloc ?_ ?_ _) | (with_reducible refine Below.drew ?_) | (with_reducible refine bdrewN ?_ _) | (with_reducible refine Below.setCell ?_ ?_ _) | (with_reducible refine bthen ?_ (by assumption) ?_) | go_size)
      have hlo' : (1 : Int) ≤ (T.size : Int) := by omega
      by_cases hhi : 18 < T.size
      · have hhi' : (18 : Int) < (T.size : Int) := by omega
        obtain rfl := (rdV_none (rd_long (by rw [hM, ← size_list]; exact hhi))).symm.trans HR.out
        clear hM hN HR
        go_wp2
        go_ret2
        refine ⟨by first | rfl | (simp), ?_⟩
        repeat' (first | (with_reducible exact Below.refl _ _) | (with_reducible assumption) | (with_reducible refine Below.alloc ?_ ?_ _) | (with_reducible refine Below.drew ?_) | (with_reducible refine bdrewN ?_ _) | (with_reducible refine Below.setCell ?_ ?_ _) | (with_reducible refine bthen ?_ (by assumption) ?_) | go_size)
      have hhi' : ¬ (18 : Int) < (T.size : Int) := by omega
      have hhi2 : (T.size : Int) ≤ 18 := by omega
      have HM := Lib.hid hM
      have HN := Lib.hid hN
      clear hM hN
      go_wp2_with fail
      go_loopg [5, 6] T.size (NumR w T)
      case atStart => exact ⟨0, by omega, by omega, rfl, rfl, by simp, Below.refl _ _⟩
      case round =>
        obtain ⟨j, hj1, hj2, rfl, rfl, hd, hbw⟩ := hrel
        have hb10 := dg_small hd hj1
        by_cases hlt : j < T.size
        · have hp := pow_le17 (j := j) (by omega)
          have hz : dgV 0 (T.data.toList.take j) < 100000000000000000 := by omega
          have hsz := hbw.size
          cases hg : isDg T[j]
          · have hk := kG T[j]
            rw [hg] at hk
            obtain rfl := (rdV_none (rd_bad (c := T[j]) (by rw [HM.out]; exact mem_list hlt) hg)).symm.trans HR.out
            clear hb10 hd hg kG HM HN hp HR
            go_wp2_with fail
            apply Calls.mono
            · with_reducible exact hk _
            rintro _ w1 ⟨rfl, hb_w1⟩
            have hbx := bthen hbw hb_w1 hsz
            clear hbw
            go_wp2
            go_ret2
            refine ⟨by first | rfl | (simp), ?_⟩
            repeat' (first | (with_reducible exact Below.refl _ _) | (with_reducible assumption) | (with_reducible refine Below.alloc ?_ ?_ _) | (with_reducible refine Below.drew ?_) | (with_reducible refine bdrewN ?_ _) | (with_reducible refine Below.setCell ?_ ?_ _) | (with_reducible refine bthen ?_ (by assumption) ?_) | go_size)
          · have hk := kG T[j]
            rw [hg] at hk
            obtain ⟨c1, c2⟩ := isDg_iff.1 hg
            have hnext : dgV 0 (T.data.toList.take (j + 1)) = 10 * dgV 0 (T.data.toList.take j) + ((T[j]).toNat - 48) := by
              rw [take_next hlt, dgV_append]; rfl
            have hd2 : ∀ c ∈ T.data.toList.take (j + 1), isDg c = true := by
              rw [take_next hlt]
              intro c hc
              rcases List.mem_append.1 hc with hc | hc
              · exact hd c hc
              · rw [List.mem_singleton] at hc; rw [hc]; exact hg
            have HX := Lib.hid hnext
            have HD := Lib.hid hd2
            clear hb10 hd hg kG HM HN hp hnext hd2
            go_wp2_with fail
            apply Calls.mono
            · with_reducible exact hk _
            rintro _ w1 ⟨rfl, hb_w1⟩
            have hbx := bthen hbw hb_w1 hsz
            clear hbw
            go_wp2
            go_roundg (gk - 1)
            case measure => omega
            case rel => exact ⟨j + 1, by omega, by omega, by go_num, by rw [HX.out]; congr 1; omega, HD.out, hbx⟩
        · obtain rfl : j = T.size := by omega
          have hp := pow_le18 (j := T.size) (by omega)
          rw [take_all] at hd hb10 ⊢
          have hnm := HN.out
          have h18 := HM.out
          generalize hV : dgV 0 T.data.toList = V at *
          have hVb : V < 1000000000000000000 := by omega
          have hr := rd_digits (l := s.data.toList) (by rw [h18, ← size_list]; omega)
          rw [hnm] at hr
          have kD := fun w => l01Dec_any (-(V : Int)) (by omega) (by omega) w
          obtain ⟨D, eD, sD⟩ : ∃ D : ByteArray, decB (-(V : Int)) = D ∧ D.size ≤ 21 := ⟨_, rfl, by
            show (Lib.itoa _).toArray.size ≤ 21
            rw [List.size_toArray]
            exact Lib.itoa_length_le _ (by omega) (by omega)⟩
          rw [eD] at kD
          have hlt2 : (T.size : Int) < (s.size : Int) := by omega
          by_cases he : Lib.itoa (-(V : Int)) = s.data.toList
          · rw [if_pos he] at hr
            obtain rfl := (rdV_some hr).symm.trans HR.out
            obtain rfl : D = s := eD.symm.trans (decB_eq.2 he)
            clear hr he eD hd hb10 hp hnm h18 HM HN kG hV hj2 HR
            go_wp2_with fail
            apply Calls.mono
            · with_reducible exact kD _
            rintro _ w1 ⟨rfl, hb_w1⟩
            have hbx := bthen hbw hb_w1 hbw.size
            clear hbw
            go_wp2
            go_ret2
            refine ⟨by first | rfl | (simp), ?_⟩
            repeat' (first | (with_reducible exact Below.refl _ _) | (with_reducible assumption) | (with_reducible refine Below.alloc ?_ ?_ _) | (with_reducible refine Below.drew ?_) | (with_reducible refine bdrewN ?_ _) | (with_reducible refine Below.setCell ?_ ?_ _) | (with_reducible refine bthen ?_ (by assumption) ?_) | go_size)
          · rw [if_neg he] at hr
            obtain rfl := (rdV_none hr).symm.trans HR.out
            have hne := be_ne (a := D) (b := s) (fun e => he (decB_eq.1 (eD.trans e)))
            clear hr he eD hd hb10 hp hnm h18 HM HN kG hV hj2 HR
            go_wp2_with fail
            apply Calls.mono
            · with_reducible exact kD _
            rintro _ w1 ⟨rfl, hb_w1⟩
            have hbx := bthen hbw hb_w1 hbw.size
            clear hbw
            go_wp2
            go_ret2
            refine ⟨by first | rfl | (simp), ?_⟩
            repeat' (first | (with_reducible exact Below.refl _ _) | (with_reducible assumption) | (with_reducible refine Below.alloc ?_ ?_ _) | (with_reducible refine Below.drew ?_) | (with_reducible refine bdrewN ?_ _) | (with_reducible refine Below.setCell ?_ ?_ _) | (with_reducible refine bthen ?_ (by assumption) ?_) | go_size)
    · obtain ⟨hM, hN⟩ := mag_plain h0' h1
      have h1' : ((s[0]'h0').toNat : Int) ≠ 45 := fun e => h1 (UInt8.toNat_inj.1 (by have : ((45 : UInt8).toNat) = 45 := rfl; omega))
      go_enter Tryd.func65, Tryd.ntmps65
      go_upto_region 4 with fail
      clear h1 h1' hA hB
      by_cases hlo : s.size < 1
      · have hlo' : ¬ (1 : Int) ≤ (s.size : Int) := by omega
        obtain rfl := (rdV_none (rd_empty (by rw [hM, ← size_list]; exact hlo))).symm.trans HR.out
        clear hM hN HR
        go_wp2
        go_ret2
        refine ⟨by first | rfl | (simp), ?_⟩
        repeat' (first | (with_reducible exact Below.refl _ _) | (with_reducible assumption) | (with_reducible refine Below.alloc ?_ ?_ _) | (with_reducible refine Below.drew ?_) | (with_reducible refine bdrewN ?_ _) | (with_reducible refine Below.setCell ?_ ?_ _) | (with_reducible refine bthen ?_ (by assumption) ?_) | go_size)
      have hlo' : (1 : Int) ≤ (s.size : Int) := by omega
      by_cases hhi : 18 < s.size
      · have hhi' : (18 : Int) < (s.size : Int) := by omega
        obtain rfl := (rdV_none (rd_long (by rw [hM, ← size_list]; exact hhi))).symm.trans HR.out
        clear hM hN HR
        go_wp2
        go_ret2
        refine ⟨by first | rfl | (simp), ?_⟩
        repeat' (first | (with_reducible exact Below.refl _ _) | (with_reducible assumption) | (with_reducible refine Below.alloc ?_ ?_ _) | (with_reducible refine Below.drew ?_) | (with_reducible refine bdrewN ?_ _) | (with_reducible refine Below.setCell ?_ ?_ _) | (with_reducible refine bthen ?_ (by assumption) ?_) | go_size)
      have hhi' : ¬ (18 : Int) < (s.size : Int) := by omega
      have hhi2 : (s.size : Int) ≤ 18 := by omega
      have HM := Lib.hid hM
      have HN := Lib.hid hN
      clear hM hN
      go_wp2_with fail
      go_loopg [5, 6] s.size (NumR w s)
      case atStart => exact ⟨0, by omega, by omega, rfl, rfl, by simp, Below.refl _ _⟩
      case round =>
        obtain ⟨j, hj1, hj2, rfl, rfl, hd, hbw⟩ := hrel
        have hb10 := dg_small hd hj1
        by_cases hlt : j < s.size
        · have hp := pow_le17 (j := j) (by omega)
          have hz : dgV 0 (s.data.toList.take j) < 100000000000000000 := by omega
          have hsz := hbw.size
          cases hg : isDg s[j]
          · have hk := kG s[j]
            rw [hg] at hk
            obtain rfl := (rdV_none (rd_bad (c := s[j]) (by rw [HM.out]; exact mem_list hlt) hg)).symm.trans HR.out
            clear hb10 hd hg kG HM HN hp HR
            go_wp2_with fail
            apply Calls.mono
            · with_reducible exact hk _
            rintro _ w1 ⟨rfl, hb_w1⟩
            have hbx := bthen hbw hb_w1 hsz
            clear hbw
            go_wp2
            go_ret2
            refine ⟨by first | rfl | (simp), ?_⟩
            repeat' (first | (with_reducible exact Below.refl _ _) | (with_reducible assumption) | (with_reducible refine Below.alloc ?_ ?_ _) | (with_reducible refine Below.drew ?_) | (with_reducible refine bdrewN ?_ _) | (with_reducible refine Below.setCell ?_ ?_ _) | (with_reducible refine bthen ?_ (by assumption) ?_) | go_size)
          · have hk := kG s[j]
            rw [hg] at hk
            obtain ⟨c1, c2⟩ := isDg_iff.1 hg
            have hnext : dgV 0 (s.data.toList.take (j + 1)) = 10 * dgV 0 (s.data.toList.take j) + ((s[j]).toNat - 48) := by
              rw [take_next hlt, dgV_append]; rfl
            have hd2 : ∀ c ∈ s.data.toList.take (j + 1), isDg c = true := by
              rw [take_next hlt]
              intro c hc
              rcases List.mem_append.1 hc with hc | hc
              · exact hd c hc
              · rw [List.mem_singleton] at hc; rw [hc]; exact hg
            have HX := Lib.hid hnext
            have HD := Lib.hid hd2
            clear hb10 hd hg kG HM HN hp hnext hd2
            go_wp2_with fail
            apply Calls.mono
            · with_reducible exact hk _
            rintro _ w1 ⟨rfl, hb_w1⟩
            have hbx := bthen hbw hb_w1 hsz
            clear hbw
            go_wp2
            go_roundg (gk - 1)
            case measure => omega
            case rel => exact ⟨j + 1, by omega, by omega, by go_num, by rw [HX.out]; congr 1; omega, HD.out, hbx⟩
        · obtain rfl : j = s.size := by omega
          have hp := pow_le18 (j := s.size) (by omega)
          rw [take_all] at hd hb10 ⊢
          have hnm := HN.out
          have h18 := HM.out
          generalize hV : dgV 0 s.data.toList = V at *
          have hVb : V < 1000000000000000000 := by omega
          have hr := rd_digits (l := s.data.toList) (by rw [h18, ← size_list]; omega)
          rw [hnm] at hr
          have kD := fun w => l01Dec_any ((V : Int)) (by omega) (by omega) w
          obtain ⟨D, eD, sD⟩ : ∃ D : ByteArray, decB ((V : Int)) = D ∧ D.size ≤ 21 := ⟨_, rfl, by
            show (Lib.itoa _).toArray.size ≤ 21
            rw [List.size_toArray]
            exact Lib.itoa_length_le _ (by omega) (by omega)⟩
          rw [eD] at kD
          skip
          by_cases he : Lib.itoa ((V : Int)) = s.data.toList
          · rw [if_pos he] at hr
            obtain rfl := (rdV_some hr).symm.trans HR.out
            obtain rfl : D = s := eD.symm.trans (decB_eq.2 he)
            clear hr he eD hd hb10 hp hnm h18 HM HN kG hV hj2 HR
            go_wp2_with fail
            apply Calls.mono
            · with_reducible exact kD _
            rintro _ w1 ⟨rfl, hb_w1⟩
            have hbx := bthen hbw hb_w1 hbw.size
            clear hbw
            go_wp2
            go_ret2
            refine ⟨by first | rfl | (simp), ?_⟩
            repeat' (first | (with_reducible exact Below.refl _ _) | (with_reducible assumption) | (with_reducible refine Below.alloc ?_ ?_ _) | (with_reducible refine Below.drew ?_) | (with_reducible refine bdrewN ?_ _) | (with_reducible refine Below.setCell ?_ ?_ _) | (with_reducible refine bthen ?_ (by assumption) ?_) | go_size)
          · rw [if_neg he] at hr
            obtain rfl := (rdV_none hr).symm.trans HR.out
            have hne := be_ne (a := D) (b := s) (fun e => he (decB_eq.1 (eD.trans e)))
            clear hr he eD hd hb10 hp hnm h18 HM HN kG hV hj2 HR
            go_wp2_with fail
            apply Calls.mono
            · with_reducible exact kD _
            rintro _ w1 ⟨rfl, hb_w1⟩
            have hbx := bthen hbw hb_w1 hbw.size
            clear hbw
            go_wp2
            go_ret2
            refine ⟨by first | rfl | (simp), ?_⟩
            repeat' (first | (with_reducible exact Below.refl _ _) | (with_reducible assumption) | (with_reducible refine Below.alloc ?_ ?_ _) | (with_reducible refine Below.drew ?_) | (with_reducible refine bdrewN ?_ _) | (with_reducible refine Below.setCell ?_ ?_ _) | (with_reducible refine bthen ?_ (by assumption) ?_) | go_size)
end Go.Proofs.YtlmmpeeacjbobaaDoor
