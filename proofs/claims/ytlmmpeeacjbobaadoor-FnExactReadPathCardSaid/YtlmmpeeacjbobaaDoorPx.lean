/-
  The texts of paths: both packages' loops.
-/
import Derived.Test.YtlmmpeeacjbobaaDoorStr
import Derived.Test.YtlmmpeeacjbobaaDoorTx
import Derived.Test.YtlmmpeeacjbobaaDoorVp
import Derived.Deep.AppendLies
namespace Go.Proofs.YtlmmpeeacjbobaaDoor
open Go.RowKit

theorem lt_even {t : Nat} (h : t % 2 = 0) : ltB t = ⟨#[82]⟩ := by unfold ltB; rw [if_pos h]
theorem lt_odd {t : Nat} (h : ¬ t % 2 = 0) : ltB t = ⟨#[76]⟩ := by unfold ltB; rw [if_neg h]
theorem wd_zero {rs : List Int} {t : Nat} (h : rs[t]? = some 0) : wdL rs (t + 1) = wdL rs t := by
  have : rs.getD t 0 = 0 := by rw [List.getD_eq_getElem?_getD, h]; rfl
  show (if 0 < rs.getD t 0 then _ else _) = _
  rw [this, if_neg (by decide)]
theorem wd_more {rs : List Int} {t : Nat} {z : Int} (h : rs[t]? = some z) (hz : 0 < z) : wdL rs (t + 1) = wdL rs t ++ [ltB t ++ decB z] := by
  have : rs.getD t 0 = z := by rw [List.getD_eq_getElem?_getD, h]; rfl
  show (if 0 < rs.getD t 0 then _ else _) = _
  rw [this, if_pos hz]
  rfl
theorem be_some {T : ByteArray} (h : 1 ≤ T.size) : T.toList.isEmpty = false := by
  cases e : T.toList.isEmpty
  · rfl
  · exfalso
    rw [List.isEmpty_iff, ByteArray.toList_eq] at e
    have h2 : T.size = T.data.toList.length := by rw [Array.length_toList]; rfl
    rw [e, List.length_nil] at h2
    omega
def TxR (w : World) (n : Nat) (rs : List Int) (k : Nat) (v i : Value) (wr : World) : Prop :=
  ∃ t : Nat, t ≤ n ∧ n ≤ t + k ∧ i = .int .i64 t ∧ v = .string (jnB (wdL rs t)) ∧ Below w.heap.size w wr
set_option maxHeartbeats 2000000 in
set_option maxRecDepth 100000 in
theorem l05Text_any (v : Value) (n : Nat) (rs : List Int) (w : World) (hv : Rd w 1 v n (ints rs)) (hk : okR rs = true) : Calls Tryd.prog 40 #[v] w (Ret w (.string (ptO rs))) := by
  have hl : rs.length = n := by have := (rd_len hv).1; rw [ints_len] at this; omega
  have e : ptO rs = if wdL rs n = [] then ⟨#[116, 111, 112]⟩ else jnB (wdL rs n) := by unfold ptO; rw [if_pos hk, hl]
  obtain ⟨M, hM⟩ : ∃ M, ptO rs = M := ⟨_, rfl⟩
  rw [hM]
  rw [hM] at e
  have HM := Lib.hid e
  obtain ⟨f1, f2⟩ := ok_facts hk
  have hmem : ∀ x ∈ rs, x ≤ 1000000000 := fun x hx => by
    obtain ⟨t, ht⟩ := List.getElem?_of_mem hx
    exact (f2 t x ht).2
  have hsz := fun t => jn_size (wdL_mem hmem t)
  have hwl := fun t => wdL_len rs t
  obtain ⟨A, c, rfl, hn1, hc1, _, hr1⟩ := hv
  have hn60 : n ≤ 60 := by omega
  have R1 := Lib.hid hr1
  have HL := Lib.hid hl
  have HF := Lib.hid f2
  have HS := Lib.hid hsz
  have HW := Lib.hid hwl
  clear hr1 hl e hk hmem hsz hwl f2 hM
  have e0 : jnB (wdL rs 0) = ⟨#[]⟩ := rfl
  go_enter Tryd.func40, Tryd.ntmps40
  go_wp2_with fail
  go_loopg [3, 4] n (fun k v i wr => TxR w n rs k v i wr)
  case atStart => exact ⟨0, by omega, by omega, rfl, by rw [e0], Below.refl _ _⟩
  case round =>
    obtain ⟨t, ht1, ht3, rfl, rfl, hbw⟩ := hrel
    have hs := hbw.size
    obtain ⟨s1, s2⟩ := HS.out t
    have s3 := HW.out t
    by_cases htn : t < n
    · obtain ⟨z, hz⟩ := get_ex (l := rs) (k := t) (by have := HL.out; omega)
      obtain ⟨z0, z1⟩ := HF.out t z hz
      rcases R1.out with h0 | ⟨g, o, rfl, hg, hcell⟩
      · omega
      have c1 : wr.cell? ⟨g, o + t, none⟩ = some (.int .i64 z) := (hbw.cell (p := ⟨g, o + t, none⟩) hg).trans (hcell t _ (ints_get hz))
      have hgw : g < wr.heap.size := by omega
      have htn' : (t : Int) < (n : Int) := by omega
      have kEnd : ∀ w9, Below wr.heap.size wr w9 → Below w.heap.size w w9 := fun w9 hb => bthen hbw hb hbw.size
      by_cases hz0 : z = 0
      · subst hz0
        have HWD := Lib.hid (wd_zero hz)
        generalize hT : jnB (wdL rs t) = T at *
        have HT := Lib.hid hT
        clear hcell hz R1 e0 hT
        go_wp2
        go_roundg (gk - 1)
        case measure => omega
        case rel => exact ⟨t + 1, by omega, by omega, by go_num, by rw [HWD.out, HT.out], hbw⟩
      · have hzp : 0 < z := by omega
        have hwd := wd_more hz hzp
        have kD := fun w => l01Dec_any z (by omega) (by omega) w
        obtain ⟨D, eD, sD⟩ : ∃ D : ByteArray, decB z = D ∧ D.size ≤ 21 := ⟨_, rfl, decB_sz z (by omega) (by omega)⟩
        rw [eD] at kD hwd
        have hz0' : (z == 0) = false := by simp [hz0]
        by_cases hE : wdL rs t = []
        · have hT : jnB (wdL rs t) = ⟨#[]⟩ := by rw [hE]; rfl
          rw [hT]
          rw [hE, List.nil_append] at hwd
          have hT' : jnB (wdL rs (t + 1)) = ltB t ++ D := by rw [hwd, jn_one]
          clear hcell hz R1 e0 hT hwd eD s1 s2 hE
          by_cases hp : t % 2 = 0
          · rw [lt_even hp] at hT'
            have hT' : jnB (wdL rs (t + 1)) = ⟨#[]⟩ ++ (⟨#[82]⟩ ++ D) := by rw [hT']; exact ByteArray.empty_append.symm
            have HT' := Lib.hid hT'
            have hpi : ((t : Int).tmod 2) = 0 := by rw [Int.tmod_eq_emod_of_nonneg (by omega)]; omega
            clear hT'
            go_wp2_with fail
            apply Calls.mono
            · with_reducible exact kD _
            rintro _ w3 ⟨rfl, hb_w3⟩
            go_wp2
            go_roundg (gk - 1)
            case measure => omega
            case rel => exact ⟨t + 1, by omega, by omega, by go_num, by rw [HT'.out], kEnd _ hb_w3⟩
          · rw [lt_odd hp] at hT'
            have hT' : jnB (wdL rs (t + 1)) = ⟨#[]⟩ ++ (⟨#[76]⟩ ++ D) := by rw [hT']; exact ByteArray.empty_append.symm
            have HT' := Lib.hid hT'
            have hpi : ((t : Int).tmod 2) = 1 := by rw [Int.tmod_eq_emod_of_nonneg (by omega)]; omega
            clear hT'
            go_wp2_with fail
            apply Calls.mono
            · with_reducible exact kD _
            rintro _ w3 ⟨rfl, hb_w3⟩
            go_wp2
            go_roundg (gk - 1)
            case measure => omega
            case rel => exact ⟨t + 1, by omega, by omega, by go_num, by rw [HT'.out], kEnd _ hb_w3⟩
        · have hT' : jnB (wdL rs (t + 1)) = jnB (wdL rs t) ++ ⟨#[32]⟩ ++ (ltB t ++ D) := by rw [hwd, jn_snoc _ hE]
          have s4 := be_some (s2 hE)
          generalize jnB (wdL rs t) = T at *
          clear hcell hz R1 e0 hwd eD s2 hE
          by_cases hp : t % 2 = 0
          · rw [lt_even hp] at hT'
            have hT' : jnB (wdL rs (t + 1)) = T ++ ⟨#[32]⟩ ++ (⟨#[82]⟩ ++ D) := hT'
            have HT' := Lib.hid hT'
            have hpi : ((t : Int).tmod 2) = 0 := by rw [Int.tmod_eq_emod_of_nonneg (by omega)]; omega
            clear hT'
            go_wp2_with fail
            apply Calls.mono
            · with_reducible exact kD _
            rintro _ w3 ⟨rfl, hb_w3⟩
            go_wp2
            go_roundg (gk - 1)
            case measure => omega
            case rel => exact ⟨t + 1, by omega, by omega, by go_num, by rw [HT'.out], kEnd _ hb_w3⟩
          · rw [lt_odd hp] at hT'
            have hT' : jnB (wdL rs (t + 1)) = T ++ ⟨#[32]⟩ ++ (⟨#[76]⟩ ++ D) := hT'
            have HT' := Lib.hid hT'
            have hpi : ((t : Int).tmod 2) = 1 := by rw [Int.tmod_eq_emod_of_nonneg (by omega)]; omega
            clear hT'
            go_wp2_with fail
            apply Calls.mono
            · with_reducible exact kD _
            rintro _ w3 ⟨rfl, hb_w3⟩
            go_wp2
            go_roundg (gk - 1)
            case measure => omega
            case rel => exact ⟨t + 1, by omega, by omega, by go_num, by rw [HT'.out], kEnd _ hb_w3⟩
    · obtain rfl : t = n := by omega
      clear e0
      have hM := HM.out
      by_cases hE : wdL rs t = []
      · rw [if_pos hE] at hM
        have hT : jnB (wdL rs t) = ⟨#[]⟩ := by rw [hE]; rfl
        rw [hT]
        subst hM
        clear hE hT s1 s2 HM
        go_wp2
        go_ret
        refine ⟨by first | rfl | (simp), ?_⟩
        repeat' (first | (with_reducible exact Below.refl _ _) | (with_reducible assumption) | (with_reducible refine Below.alloc ?_ ?_ _) | (with_reducible refine Below.drew ?_) | (with_reducible refine bdrewN ?_ _) | (with_reducible refine Below.setCell ?_ ?_ _) | (with_reducible refine bthen ?_ (by assumption) ?_) | go_size)
      · rw [if_neg hE] at hM
        have s4 := be_some (s2 hE)
        rw [← hM] at s4
        rw [← hM]
        clear hE s1 s2 HM hM
        go_wp2
        go_ret
        refine ⟨by first | rfl | (simp), ?_⟩
        repeat' (first | (with_reducible exact Below.refl _ _) | (with_reducible assumption) | (with_reducible refine Below.alloc ?_ ?_ _) | (with_reducible refine Below.drew ?_) | (with_reducible refine bdrewN ?_ _) | (with_reducible refine Below.setCell ?_ ?_ _) | (with_reducible refine bthen ?_ (by assumption) ?_) | go_size)
theorem pathTextS_any (v : Value) (n : Nat) (rs : List Int) (w : World) (hv : Rd w 1 v n (ints rs)) (hn : n ≤ 1048576) : Calls Tryd.prog 7 #[v] w (Ret w (.string (ptO rs))) := by
  cases hk : okR rs
  · have e : ptO rs = ⟨#[]⟩ := by unfold ptO; rw [hk]; rfl
    rw [e]
    have kV := fun w' (hb : Below w.heap.size w w') => l05Ok_any v n rs w' (hv.below hb (Nat.le_refl _)) hn false hk
    obtain ⟨A, c, rfl, -⟩ := id hv
    clear hv e hk
    go_enter Tryd.func7, Tryd.ntmps7
    go_wp2_with fail
    apply Calls.mono
    · with_reducible exact kV _ (Below.refl _ _)
    rintro _ w1 ⟨rfl, hb_w1⟩
    obtain ⟨hc_w1, hf_w1, hs_w1⟩ := bcell hb_w1
    try simp at hs_w1
    go_wp2
    go_ret
    refine ⟨by first | rfl | (simp), ?_⟩
    repeat' (first | (with_reducible exact Below.refl _ _) | (with_reducible assumption) | (with_reducible refine Below.alloc ?_ ?_ _) | (with_reducible refine Below.drew ?_) | (with_reducible refine bdrewN ?_ _) | (with_reducible refine Below.setCell ?_ ?_ _) | (with_reducible refine bthen ?_ (by assumption) ?_) | go_size)
  · have kV := fun w' (hb : Below w.heap.size w w') => l05Ok_any v n rs w' (hv.below hb (Nat.le_refl _)) hn true hk
    have kT := fun w' (hb : Below w.heap.size w w') => l05Text_any v n rs w' (hv.below hb (Nat.le_refl _)) hk
    obtain ⟨A, c, rfl, -⟩ := id hv
    generalize ptO rs = T at *
    clear hv hk
    go_enter Tryd.func7, Tryd.ntmps7
    go_wp2_with fail
    apply Calls.mono
    · with_reducible exact kV _ (Below.refl _ _)
    rintro _ w1 ⟨rfl, hb_w1⟩
    obtain ⟨hc_w1, hf_w1, hs_w1⟩ := bcell hb_w1
    try simp at hs_w1
    go_wp2_with fail
    apply Calls.mono
    · with_reducible exact kT _ hb_w1
    rintro _ w2 ⟨rfl, hb_w2⟩
    obtain ⟨hc_w2, hf_w2, hs_w2⟩ := bcell hb_w2
    try simp at hs_w2
    go_wp2
    go_ret
    refine ⟨by first | rfl | (simp), ?_⟩
    repeat' (first | (with_reducible exact Below.refl _ _) | (with_reducible assumption) | (with_reducible refine Below.alloc ?_ ?_ _) | (with_reducible refine Below.drew ?_) | (with_reducible refine bdrewN ?_ _) | (with_reducible refine Below.setCell ?_ ?_ _) | (with_reducible refine bthen ?_ (by assumption) ?_) | go_size)
def PxR (w : World) (n : Nat) (rs : List Int) (k : Nat) (v i : Value) (wr : World) : Prop :=
  ∃ t : Nat, t ≤ n ∧ n ≤ t + k ∧ i = .int .i64 t ∧ wr.ownsRow w.heap.size 9 1 v (wdL rs t).length (strs (wdL rs t)) ∧ Below w.heap.size w wr
set_option maxHeartbeats 4000000 in
set_option maxRecDepth 100000 in
theorem pathTextI_big (v : Value) (n : Nat) (rs : List Int) (w : World) (ht : Tb w) (hv : Rd w 1 v n (ints rs)) (hn : n ≤ 2097152) : Calls Tryd.prog 9 #[v] w (Ret w (.string (ptO rs))) := by
  obtain ⟨is, his, hy0, hy1, hy2⟩ := info_parts Tryd.infoS
  cases hk : okR rs
  · have e : ptO rs = ⟨#[]⟩ := by unfold ptO; rw [hk]; rfl
    rw [e]
    have kV := fun w' (hb : Below w.heap.size w w') => validPath_big v n rs w' (hv.below hb (Nat.le_refl _)) hn false hk
    obtain ⟨A, c, rfl, -⟩ := id hv
    clear hv e hk
    go_enter Tryd.func9, Tryd.ntmps9
    go_wp2_with fail
    apply Calls.mono
    · with_reducible exact kV _ (Below.refl _ _)
    rintro _ w1 ⟨rfl, hb_w1⟩
    obtain ⟨hc_w1, hf_w1, hs_w1⟩ := bcell hb_w1
    try simp at hs_w1
    go_wp2
    go_ret
    refine ⟨by first | rfl | (simp), ?_⟩
    repeat' (first | (with_reducible exact Below.refl _ _) | (with_reducible assumption) | (with_reducible refine Below.alloc ?_ ?_ _) | (with_reducible refine Below.drew ?_) | (with_reducible refine bdrewN ?_ _) | (with_reducible refine Below.setCell ?_ ?_ _) | (with_reducible refine bthen ?_ (by assumption) ?_) | go_size)
  · have hl : rs.length = n := by have := (rd_len hv).1; rw [ints_len] at this; omega
    have e : ptO rs = if wdL rs n = [] then ⟨#[116, 111, 112]⟩ else jnB (wdL rs n) := by unfold ptO; rw [if_pos hk, hl]
    obtain ⟨M, hM⟩ : ∃ M, ptO rs = M := ⟨_, rfl⟩
    rw [hM]
    rw [hM] at e
    have HM := Lib.hid e
    obtain ⟨f1, f2⟩ := ok_facts hk
    have hmem : ∀ x ∈ rs, x ≤ 1000000000 := fun x hx => by
      obtain ⟨t, ht⟩ := List.getElem?_of_mem hx
      exact (f2 t x ht).2
    have hsz := fun t => jn_size (wdL_mem hmem t)
    have hwl := fun t => wdL_len rs t
    have kV := fun w' (hb : Below w.heap.size w w') => validPath_big v n rs w' (hv.below hb (Nat.le_refl _)) hn true hk
    obtain ⟨A, c, rfl, hn1, hc1, _, hr1⟩ := hv
    have hn60 : n ≤ 60 := by omega
    have R1 := Lib.hid hr1
    have HL := Lib.hid hl
    have HF := Lib.hid f2
    have HS := Lib.hid hsz
    have HW := Lib.hid hwl
    clear hr1 hl e hk hmem hsz hwl f2 hM
    go_enter Tryd.func9, Tryd.ntmps9
    go_wp2_with fail
    apply Calls.mono
    · with_reducible exact kV _ (Below.refl _ _)
    rintro _ w1 ⟨rfl, hb_w1⟩
    obtain ⟨hc_w1, hf_w1, hs_w1⟩ := bcell hb_w1
    try simp at hs_w1
    clear kV hc_w1 hf_w1 hs_w1
    have ht1 := ht.below hb_w1
    have z1 := hb_w1.size
    go_wp2_with fail
    go_loopg [3, 11] n (fun k v i wr => PxR w1 n rs k v i wr)
    case atStart => exact ⟨0, by omega, by omega, rfl, World.ownsRow_nil _ _ _ _, Below.refl _ _⟩
    case round =>
      obtain ⟨t, ht2, ht3, rfl, hown, hbw⟩ := hrel
      have hs := hbw.size
      have s3 := HW.out t
      have belr : Below w.heap.size w wr := bthen hb_w1 hbw z1
      have htr := ht1.below hbw
      by_cases htn : t < n
      · obtain ⟨z, hz⟩ := get_ex (l := rs) (k := t) (by have := HL.out; omega)
        obtain ⟨z0, zz⟩ := HF.out t z hz
        rcases R1.out with h0 | ⟨g, o, rfl, hg, hcell⟩
        · omega
        have c1 : wr.cell? ⟨g, o + t, none⟩ = some (.int .i64 z) := (belr.cell (p := ⟨g, o + t, none⟩) hg).trans (hcell t _ (ints_get hz))
        have hgw : g < wr.heap.size := by omega
        have htn' : (t : Int) < (n : Int) := by omega
        by_cases hz0 : z = 0
        · subst hz0
          have HWD := Lib.hid (wd_zero hz)
          clear hcell hz R1
          go_wp2
          go_roundg (gk - 1)
          case measure => omega
          case rel => exact ⟨t + 1, by omega, by omega, by go_num, by rw [HWD.out]; exact hown, hbw⟩
        · have hzp : 0 < z := by omega
          have hwd := wd_more hz hzp
          have kD := fun w h => decimal_any z (by omega) (by omega) w h
          obtain ⟨D, eD, sD⟩ : ∃ D : ByteArray, decB z = D ∧ D.size ≤ 21 := ⟨_, rfl, decB_sz z (by omega) (by omega)⟩
          rw [eD] at kD hwd
          obtain ⟨va, vc, hvv⟩ : ∃ va vc, u3 = .slice va (wdL rs t).length vc := by
            rcases hown.2 with ⟨h', h0⟩ | ⟨g', cap, cur, h', _⟩
            · exact ⟨none, 0, by rw [h', h0]⟩
            · exact ⟨_, _, h'⟩
          subst hvv
          clear hcell hz R1 eD
          have htd : Tb wr.drew := htr.below (Below.refl _ _).drew
          have KD : ∀ w9, Below wr.drew.heap.size wr.drew w9 → w9.ownsRow w1.heap.size 9 1 (.slice va (wdL rs t).length vc) (wdL rs t).length (strs (wdL rs t)) ∧ Below wr.heap.size wr w9 ∧ wr.heap.size ≤ w9.heap.size := fun w9 hb => by
            have b2 : Below wr.heap.size wr w9 := bthen (Below.refl _ _).drew hb (Nat.le_refl _)
            exact ⟨own_below hown b2 (Nat.le_refl _), b2, b2.size⟩
          have hs9 : (strs (wdL rs t)).length = (wdL rs t).length := strs_len _
          have hDs : ¬ (9223372036854775807 < 1 + D.size) := by omega
          have hwr1 : IntKind.i64.wrap 1 = 1 := by decide
          have hwr2 : IntKind.i64.wrap 2 = 2 := by decide
          have hx1 : (⟨#[82, 76]⟩ : ByteArray).extract 0 1 = ⟨#[82]⟩ := by decide
          have hx2 : (⟨#[82, 76]⟩ : ByteArray).extract 1 2 = ⟨#[76]⟩ := by decide
          go_upto_region 8 with fail
          by_cases hp : t % 2 = 0
          · have hpi : ((t : Int).tmod 2) = 0 := by rw [Int.tmod_eq_emod_of_nonneg (by omega)]; omega
            rw [lt_even hp] at hwd
            have HWD := Lib.hid hwd
            clear hwd hp
            go_region_law (first | (refine step_append_lies _ (by rfl) _ _ _ (by rfl) w1.heap.size 9 is _ 1 16 Tryd.underlying27 his hy0 hy1 hy2 (by rfl) (by decide) (.slice va (wdL rs t).length vc) (wdL rs t).length (strs (wdL rs t)) (by rfl) (k1.alloc _) ⟨w9.heap.size, 0, none⟩ 1 1 [.string (⟨#[82]⟩ ++ D)] (by rfl) (by rfl) (World.news_of_block (cs := #[.string (⟨#[82]⟩ ++ D)]) (t := 9) (fr := (0, 0)) (heap_alloc_new _ _)) (by simp [Value.oneCell']) (by omega) (by simp only [maxLen]; omega) (by omega) (by simp; omega) (w9.heap.size + 1) (by simp) ?_; intro g3 cap3 w3 hown3 hgr3 hat3 hlt3) | (go_simp; go_at_call 42; refine (kD _ htd).mono ?_; rintro _ w9 ⟨rfl, hb_w9⟩; obtain ⟨k1, k2, k3⟩ := KD w9 hb_w9))
            all_goals go_wp2_with fail
            all_goals
              go_roundg (gk - 1)
              case measure => omega
              case rel =>
                refine ⟨t + 1, by omega, by omega, by go_num, ?_, ?_⟩
                · rw [HWD.out, List.length_append, List.length_singleton, show strs (wdL rs t ++ [⟨#[82]⟩ ++ D]) = strs (wdL rs t) ++ [.string (⟨#[82]⟩ ++ D)] by simp [strs]]
                  exact hown3
                · exact (bthen hbw (k2.alloc k3 _) hs).grown hgr3 (by simp; omega) (fun k hk => (hown.lt k hk).1)
          · have hpi : ((t : Int).tmod 2) = 1 := by rw [Int.tmod_eq_emod_of_nonneg (by omega)]; omega
            rw [lt_odd hp] at hwd
            have HWD := Lib.hid hwd
            clear hwd hp
            go_region_law (first | (refine step_append_lies _ (by rfl) _ _ _ (by rfl) w1.heap.size 9 is _ 1 16 Tryd.underlying27 his hy0 hy1 hy2 (by rfl) (by decide) (.slice va (wdL rs t).length vc) (wdL rs t).length (strs (wdL rs t)) (by rfl) (k1.alloc _) ⟨w9.heap.size, 0, none⟩ 1 1 [.string (⟨#[76]⟩ ++ D)] (by rfl) (by rfl) (World.news_of_block (cs := #[.string (⟨#[76]⟩ ++ D)]) (t := 9) (fr := (0, 0)) (heap_alloc_new _ _)) (by simp [Value.oneCell']) (by omega) (by simp only [maxLen]; omega) (by omega) (by simp; omega) (w9.heap.size + 1) (by simp) ?_; intro g3 cap3 w3 hown3 hgr3 hat3 hlt3) | (go_simp; go_at_call 42; refine (kD _ htd).mono ?_; rintro _ w9 ⟨rfl, hb_w9⟩; obtain ⟨k1, k2, k3⟩ := KD w9 hb_w9))
            all_goals go_wp2_with fail
            all_goals
              go_roundg (gk - 1)
              case measure => omega
              case rel =>
                refine ⟨t + 1, by omega, by omega, by go_num, ?_, ?_⟩
                · rw [HWD.out, List.length_append, List.length_singleton, show strs (wdL rs t ++ [⟨#[76]⟩ ++ D]) = strs (wdL rs t) ++ [.string (⟨#[76]⟩ ++ D)] by simp [strs]]
                  exact hown3
                · exact (bthen hbw (k2.alloc k3 _) hs).grown hgr3 (by simp; omega) (fun k hk => (hown.lt k hk).1)
      · obtain rfl : t = n := by omega
        have hM := HM.out
        by_cases hE : wdL rs t = []
        · rw [if_pos hE] at hM
          subst hM
          rw [hE, List.length_nil] at hown
          rcases hown.2 with ⟨h', h0⟩ | ⟨g', cap, cur, h', _⟩
          · subst h'
            clear HM R1 hown
            go_wp2
            go_ret
            refine ⟨by first | rfl | (simp), ?_⟩
            repeat' (first | (with_reducible exact Below.refl _ _) | (with_reducible assumption) | (with_reducible refine Below.alloc ?_ ?_ _) | (with_reducible refine Below.drew ?_) | (with_reducible refine bdrewN ?_ _) | (with_reducible refine Below.setCell ?_ ?_ _) | (with_reducible refine bthen ?_ (by assumption) ?_) | go_size)
          · subst h'
            clear HM R1 hown
            go_wp2
            go_ret
            refine ⟨by first | rfl | (simp), ?_⟩
            repeat' (first | (with_reducible exact Below.refl _ _) | (with_reducible assumption) | (with_reducible refine Below.alloc ?_ ?_ _) | (with_reducible refine Below.drew ?_) | (with_reducible refine bdrewN ?_ _) | (with_reducible refine Below.setCell ?_ ?_ _) | (with_reducible refine bthen ?_ (by assumption) ?_) | go_size)
        · rw [if_neg hE] at hM
          have hne : 1 ≤ (wdL rs t).length := by
            cases hw : wdL rs t with
            | nil => exact absurd hw hE
            | cons x r => simp
          have hz1 := (HS.out t).1
          rcases hown.2 with ⟨h', h0⟩ | ⟨g', cap, cur, h', hg1, hg2, hnc, hcm, _⟩
          · omega
          · subst h'
            have hgl : g' < wr.heap.size := (Array.getElem?_eq_some_iff.1 hg2).1
            have hcells : ∀ (j : Nat) x, (wdL rs t)[j]? = some x → wr.cell? ⟨g', 0 + j, none⟩ = some (.string x) := fun j x hx => by
              rw [Nat.zero_add]
              have hj : j < (wdL rs t).length := by
                rcases Nat.lt_or_ge j (wdL rs t).length with h | h
                · exact h
                · rw [List.getElem?_eq_none h] at hx; cases hx
              refine (hown.cellAt j (by omega)).trans ?_
              simp [strs, hx]
            have kJ := Tryd.strings_Join g' 0 cap (wdL rs t) ⟨#[32]⟩ wr hcells hgl (by omega) hnc (by
              have h2 : (Lib.join ((wdL rs t).map (·.data.toList)) (⟨#[32]⟩ : ByteArray).data.toList).length = (jnB (wdL rs t)).size := by
                show _ = (List.toArray _).size
                rw [List.size_toArray]
              rw [h2]; omega)
            have hj2 : (⟨(Lib.join ((wdL rs t).map (·.data.toList)) (⟨#[32]⟩ : ByteArray).data.toList).toArray⟩ : ByteArray) = M := hM.symm
            rw [hj2] at kJ
            have hln : ¬ (((wdL rs t).length : Int) = 0) := by omega
            clear HM R1 hown hcells hM hj2 hE hg2
            generalize (wdL rs t).length = L at *
            go_wp2_with fail
            apply Calls.mono
            · with_reducible exact kJ
            rintro _ w5 ⟨rfl, hb_w5⟩
            have belz := bthen belr hb_w5 belr.size
            go_wp2
            go_ret
            refine ⟨by first | rfl | (simp), ?_⟩
            repeat' (first | (with_reducible exact Below.refl _ _) | (with_reducible assumption) | (with_reducible refine Below.alloc ?_ ?_ _) | (with_reducible refine Below.drew ?_) | (with_reducible refine bdrewN ?_ _) | (with_reducible refine Below.setCell ?_ ?_ _) | (with_reducible refine bthen ?_ (by assumption) ?_) | go_size)
theorem pathTextI_any (v : Value) (n : Nat) (rs : List Int) (w : World) (ht : Tb w) (hv : Rd w 1 v n (ints rs)) (hn : n ≤ 1048576) : Calls Tryd.prog 9 #[v] w (Ret w (.string (ptO rs))) := pathTextI_big v n rs w ht hv (by omega)
end Go.Proofs.YtlmmpeeacjbobaaDoor
