/-
  Parts of the proof in one text (put together by fuse.py: Rq Rz Rt FareyM Rw Farey Farey2 Rx Rpq Rps Rpi F6f F6i Tu Cw Pb Tv Tw SkT Ng).
-/
import Derived.Test.YtlmmpeeacjbobaaGreatDoorRpl
import Derived.Test.YtlmmpeeacjbobaaGreatDoorRn
import Derived.Test.YtlmmpeeacjbobaaGreatDoorDrw
import Derived.Test.YtlmmpeeacjbobaaGreatDoorPx
import Derived.Deep.RegionWith
import Derived.Laws.BitsLemmas
import Derived.Test.YtlmmpeeacjbobaaGreatDoorTs
import Derived.Test.YtlmmpeeacjbobaaGreatDoorFr
import Derived.Maps.AppendAt
import Derived.Maps.Range
import Derived.Deep.AppendLies
import Derived.Test.YtlmmpeeacjbobaaGreatDoorFrac2
import Derived.Test.YtlmmpeeacjbobaaGreatDoorDraw
import Derived.Test.YtlmmpeeacjbobaaGreatDoorRe
import Derived.Test.YtlmmpeeacjbobaaGreatDoorSs
import Derived.Test.YtlmmpeeacjbobaaGreatDoorVp
import Derived.Test.YtlmmpeeacjbobaaGreatDoorApp
import Derived.Test.YtlmmpeeacjbobaaGreatDoorPf
import Derived.Test.YtlmmpeeacjbobaaGreatDoorPa
import Derived.Test.YtlmmpeeacjbobaaGreatDoorCon
import Derived.Test.YtlmmpeeacjbobaaGreatDoorNf
import Derived.Test.YtlmmpeeacjbobaaGreatDoorCv2
namespace Go.Proofs.YtlmmpeeacjbobaaGreatDoor
open Go.Lib

theorem pt_size {rs : List Int} (h : rs.length ≤ 61) : (ptO rs).size ≤ 2000 := by
  unfold ptO
  split
  · rename_i hk
    split
    · decide
    · have h1 := (jn_size (wdL_mem (fun t ht => (okR_up hk t ht).1) rs.length)).1
      have h2 : (wdL rs rs.length).length ≤ rs.length := by
        have e := congrArg List.length (words_of rs)
        rw [List.length_map] at e
        have := (wF_len rs 0).1
        omega
      omega
  · decide
theorem wF_head : ∀ (rs : List Int) (t : Nat), ∀ x ∈ wF t rs, x.head? = some 82 ∨ x.head? = some 76
  | [], t => by simp [wF]
  | n :: r, t => by
    intro x hx
    have hw : x = ltC t :: itoa n ∨ x ∈ wF (t + 1) r := by
      revert hx
      show x ∈ (if 0 < n then _ else _) → _
      split
      · intro hx; exact List.mem_cons.1 hx
      · exact .inr
    rcases hw with rfl | hx
    · unfold ltC
      split
      · exact .inl rfl
      · exact .inr rfl
    · exact wF_head r (t + 1) x hx
theorem wF_first {n : Int} {r : List Int} {t : Nat} (h : 1 ≤ n) : wF t (n :: r) = (ltC t :: itoa n) :: wF (t + 1) r := by
  show (if 0 < n then _ else _) = _
  rw [if_pos (by omega)]
theorem wF_zero {r : List Int} {t : Nat} : wF t (0 :: r) = wF (t + 1) r := by
  show (if (0 : Int) < 0 then _ else _) = _
  rw [if_neg (by decide)]
/-- Runs that are read back from their words. -/
theorem sW_words {rs : List Int} (hk : okR rs = true) (hne : rs ≠ []) : wF 0 rs ≠ [] ∧ sW (wF 0 rs) = some rs := by
  cases rs with
  | nil => exact absurd rfl hne
  | cons z r =>
    have hz := okR_el hk (t := 0) (z := z) rfl
    have ht := okR_tl hk
    by_cases z1 : 1 ≤ z
    · rw [wF_first z1]
      refine ⟨by simp, ?_⟩
      have e : isL ((ltC 0 :: itoa z) :: wF (0 + 1) r) = false := by simp [isL, ltC]
      unfold sW
      rw [e, ← wF_first (t := 0) z1]
      exact (wF_reads (z :: r) 0 (fun n hn => by
        rcases List.mem_cons.1 hn with rfl | hn
        · exact ⟨z1, hz.2⟩
        · exact ht n hn)).1
    · have hlow : lowR (z :: r).length 0 ≤ 0 := by omega
      have hlen : 1 < (z :: r).length := by
        unfold lowR at hlow
        split at hlow
        · rename_i h; exact h.2
        · omega
      have z0 : z = 0 := by
        have : 0 ≤ lowR (z :: r).length 0 := by unfold lowR; split <;> omega
        omega
      subst z0
      rw [wF_zero]
      cases r with
      | nil => simp at hlen
      | cons y r =>
        have hy := ht y (by simp)
        have e : isL (wF (0 + 1) (y :: r)) = true := by rw [wF_first hy.1]; simp [isL, ltC]
        refine ⟨by rw [wF_first hy.1]; simp, ?_⟩
        unfold sW
        rw [e, (wF_reads (y :: r) (0 + 1) ht).1]
        rfl
theorem pt_back (rs : List Int) : rpS (ptO rs).data.toList = if okR rs then some rs else none := by
  cases hk : okR rs
  · have e : ptO rs = ⟨#[]⟩ := by unfold ptO; rw [hk]; rfl
    rw [e]
    rfl
  · rw [if_pos rfl]
    by_cases hr : rs = []
    · subst hr
      have e : ptO [] = ⟨#[116, 111, 112]⟩ := by unfold ptO; rw [hk]; rfl
      rw [e]
      unfold rpS
      exact if_pos rfl
    · obtain ⟨h1, h2⟩ := sW_words hk hr
      have hsp : spL 32 (ptO rs).data.toList = wF 0 rs := by rw [pt_list hk h1, sp_join 32 _ h1 (wF_no rs 0)]
      unfold rpS
      rw [if_neg ?_, hsp, h2]
      · simp [hk]
      · intro e
        rw [e] at hsp
        have h3 : spL 32 topL = [topL] := by decide
        rw [h3] at hsp
        have := wF_head rs 0 topL (by rw [← hsp]; simp)
        revert this
        decide
theorem pt_ne (rs : List Int) : ((ptO rs).toList.isEmpty) = !okR rs := by
  rw [ByteArray.toList_eq]
  cases hk : okR rs
  · have e : ptO rs = ⟨#[]⟩ := by unfold ptO; rw [hk]; rfl
    rw [e]; rfl
  · have hb := pt_back rs
    rw [hk, if_pos rfl] at hb
    cases h : (ptO rs).data.toList with
    | nil =>
      rw [h] at hb
      have : rpS [] = none := by decide
      rw [this] at hb; cases hb
    | cons a l => rfl
end Go.Proofs.YtlmmpeeacjbobaaGreatDoor
namespace Go.Proofs.YtlmmpeeacjbobaaGreatDoor
open Go.RowKit

/-- A draw returned a short text. -/
def DrewT (w : World) (g m B : Nat) (e : Ending) (w' : World) : Prop := ∃ s : ByteArray, e = .returned (.string s) ∧ s.size ≤ B ∧ Src w' g m ∧ w.grownBy w' (some g)
theorem text_any (g m B : Nat) (v : Value) (n : Nat) (xs : List ByteArray) (w : World) (h : Src w g m) (hm : m ≤ 800000) (hv : Rs w 1 v n (strs xs)) (hne : some g ≠ v.ownBlock) (h1 : 1 ≤ n) (h2 : n ≤ 1000) (hB : ∀ x ∈ xs, x.size ≤ B) :
    Calls Tryz.prog 26 #[.pointer (some ⟨g, 0, none⟩), v] w (DrewT w g (m + 2) B) := by
  have hl : xs.length = n := by have := (rd_len hv.1).1; rw [strs_len] at this; omega
  have HV := Lib.hid (fun w' (hg : w.grownBy w' (some g)) => hv.grown hg (.inr hne))
  obtain ⟨A, c, rfl, -⟩ := id hv.1
  clear hv hne
  go_enter Tryz.func26, Tryz.ntmps26
  go_wp2_with fail
  apply Calls.mono
  · with_reducible exact pick_any g m n _ h (by omega) (by omega) (by omega)
  rintro _ w1 ⟨b, rfl, ⟨b0, b1⟩, s1, g1⟩
  obtain ⟨j, rfl⟩ := Int.eq_ofNat_of_zero_le b0
  obtain ⟨z, hz⟩ := get_ex (l := xs) (k := j) (by omega)
  obtain ⟨A', c', hA, _, _, _, h0 | ⟨g', o, hA2, hg', hcell⟩⟩ := (HV.out w1 g1).1
  · omega
  injection hA with hA _ hcc
  subst hcc
  subst hA
  subst hA2
  have hz' : (strs xs)[j]? = some (.string z) := by simp [strs, hz]
  have c1 : w1.cell? ⟨g', o + j, none⟩ = some (.string z) := hcell j _ hz'
  have hmem := hB _ (List.mem_of_getElem? hz)
  clear hcell hz hz' HV hB
  go_wp2
  go_ret
  exact ⟨z, rfl, hmem, s1, g1⟩
theorem wrap_pos {z : Int} (h1 : 0 ≤ z) (h2 : z ≤ 1000000) : IntKind.i64.wrap z = z := by rw [IntKind.wrap_i64]; omega
set_option maxHeartbeats 8000000 in
set_option maxRecDepth 100000 in
theorem spoil_any (g m : Nat) (t : ByteArray) (ht : t.size ≤ 5000) (w : World) (h : Src w g m) (hm : m ≤ 500000) : Calls Tryz.prog 27 #[.pointer (some ⟨g, 0, none⟩), .string t] w (DrewT w g (m + 8) 5001) := by
  have hgw := h.lt'
  go_enter Tryz.func27, Tryz.ntmps27
  go_wp2_with fail
  apply Calls.mono
  · with_reducible exact pick_any g m 5 _ h (by omega) (by omega) (by omega)
  rintro _ w1 ⟨b, rfl, ⟨b0, b1⟩, s1, g1⟩
  by_cases hb0 : b = 0
  · subst hb0
    clear h
    go_wp2_with fail
    apply Calls.mono
    · with_reducible exact pick_any g (m + 2) (t.size + 1) _ s1 (by omega) (by omega) (by omega)
    rintro _ w2 ⟨a, rfl, ⟨a0, a1⟩, s2, g2⟩
    obtain ⟨k, rfl⟩ := Int.eq_ofNat_of_zero_le a0
    have hk : k ≤ t.size := by omega
    have hL := World.ownsRow_lit (base := 0) (e := 9) (size := 1) w2 #[.string ⟨#[32]⟩, .string ⟨#[48]⟩, .string ⟨#[45]⟩, .string ⟨#[120]⟩, .string ⟨#[49]⟩, .string ⟨#[57]⟩, .string ⟨#[46]⟩] 7 (Nat.zero_le _) (by simp [maxLen]) (by simp)
    have hlt := s2.lt'
    have hgA := grown_tr g1 g2
    have kB := fun wy (hb : Below (w2.heap.size + 1) (w2.alloc (.cells #[.string ⟨#[32]⟩, .string ⟨#[48]⟩, .string ⟨#[45]⟩, .string ⟨#[120]⟩, .string ⟨#[49]⟩, .string ⟨#[57]⟩, .string ⟨#[46]⟩] 9)) wy) =>
      (text_any g (m + 2 + 2) 1 _ 7 [⟨#[32]⟩, ⟨#[48]⟩, ⟨#[45]⟩, ⟨#[120]⟩, ⟨#[49]⟩, ⟨#[57]⟩, ⟨#[46]⟩] wy ((s2.alloc' _).below (by rw [World.size_alloc]; exact hb)) (by omega) ((Rs.of_own hL).below hb (by rw [World.size_alloc]; omega)) (fun e => by have e : some g = some w2.heap.size := e; injection e with e; omega) (by omega) (by omega) (by simp; decide)).mono
        (R' := DrewT w g (m + 8) 1) (fun e w' ⟨s, he, hs, s3, g3⟩ => ⟨s, he, hs, s3.mono (by omega), grown_tr (grown_below_tr (grown_alloc hgA _) (by rw [World.size_alloc]; exact hb)) g3⟩)
    clear s1 g1 s2 g2 hL
    have q1 : (IntKind.i64.wrap ((t.size : Int) + 1)) = (t.size : Int) + 1 := wrap_pos (by omega) (by omega)
    have e1 : (t.extract 0 k).size ≤ k := by rw [ByteArray.size_extract]; omega
    have e2 : (t.extract k t.size).size ≤ t.size - k := by rw [ByteArray.size_extract]; omega
    have hkt : (k : Int) ≤ (t.size : Int) := by omega
    go_wp2_with fail
    go_region_with (go_at_call 26; refine (kB _ ?_).mono ?_; (first | exact Below.refl _ _ | exact (Below.refl _ _).drew); rintro _ w3 ⟨s, rfl, hs, s3, g3⟩)
    all_goals go_wp2
    all_goals go_ret
    all_goals exact ⟨_, rfl, by simp only [ByteArray.size_append]; omega, s3, g3⟩
  · have hb0' : (b == 0) = false := by simp [hb0]
    by_cases hb1 : b = 1
    · subst hb1
      by_cases h0 : t.size = 0
      · have e0 : t = ⟨#[]⟩ := by
          cases t with
          | mk d =>
            have : d.size = 0 := h0
            rw [Array.size_eq_zero_iff] at this
            rw [this]
        subst e0
        go_wp2
        go_ret
        exact ⟨_, rfl, by decide, s1.mono (by omega), g1⟩
      · have e0 : t.toList.isEmpty = false := be_some (by omega)
        go_wp2_with fail
        apply Calls.mono
        · with_reducible exact pick_any g (m + 2) t.size _ s1 (by omega) (by omega) (by omega)
        rintro _ w2 ⟨a, rfl, ⟨a0, a1⟩, s2, g2⟩
        obtain ⟨k, rfl⟩ := Int.eq_ofNat_of_zero_le a0
        have hk : k + 1 ≤ t.size := by omega
        have q1 : (IntKind.i64.wrap ((k : Int) + 1)) = (k : Int) + 1 := wrap_pos (by omega) (by omega)
        have e1 : (t.extract 0 k).size ≤ k := by rw [ByteArray.size_extract]; omega
        have e2 : (t.extract (k + 1) t.size).size ≤ t.size - (k + 1) := by rw [ByteArray.size_extract]; omega
        have hkt : (k : Int) ≤ (t.size : Int) := by omega
        have hkt2 : (k : Int) + 1 ≤ (t.size : Int) := by omega
        have hgA := grown_tr g1 g2
        clear s1 g1 g2 h
        go_wp2_with fail
        refine wp_region_calm (by kernel_rfl) (by kernel_rfl) ?_
        repeat (go_big_quiet_step ((fail)))
        refine wpQuiet_nil ?_
        intro w3 hb_w3
        obtain ⟨hc_w3, hf_w3, hs_w3⟩ := bcell hb_w3
        try simp at hs_w3
        have s3 := s2.below hb_w3
        have g3 := grown_below_tr hgA hb_w3
        go_wp2
        go_ret
        exact ⟨_, rfl, by simp only [ByteArray.size_append]; omega, s3.mono (by omega), g3⟩
    · have hb1' : (b == 1) = false := by simp [hb1]
      go_wp2
      go_ret
      exact ⟨_, rfl, by omega, s1.mono (by omega), g1⟩
theorem drawPathText_any (A : Option Addr) (n c : Nat) (w : World) (hn : n ≤ 100000) (hr : ByteRd w w.heap.size A n) : Calls Tryz.prog 5 #[.slice A n c] w (fun e w' => ∃ v xs, e = .returned v ∧ xs.length ≤ 61 ∧ w'.ownsRow w.heap.size 2 1 v xs.length (ints xs) ∧ Below w.heap.size w w') := by
  go_enter Tryz.func5, Tryz.ntmps5
  go_wp2_with fail
  apply Calls.mono
  · with_reducible exact from_any A n c _ hn hr
  rintro _ w1 ⟨g, rfl, s1, b1, hg⟩
  go_wp2_with fail
  apply Calls.mono
  · with_reducible exact l05Runs_any g 0 _ s1 (by omega)
  rintro _ w2 ⟨v, xs, rfl, hxl, hown, s2, g2⟩
  have V2 := bthen b1 (grown_base (B := w.heap.size) hg b1.size g2) (Nat.le_refl _)
  go_wp2
  go_ret
  exact ⟨_, xs, rfl, hxl, own_base hown b1.size, V2⟩
set_option maxHeartbeats 1000000 in
theorem drawRowOfTree_any (A : Option Addr) (n c : Nat) (w : World) (hn : n ≤ 100000) (hr : ByteRd w w.heap.size A n) : Calls Tryz.prog 10 #[.slice A n c] w (fun e w' => ∃ d : Int, e = .returned (.int .i64 d) ∧ Below w.heap.size w w') := by
  go_enter Tryz.func10, Tryz.ntmps10
  go_wp2_with fail
  apply Calls.mono
  · with_reducible exact from_any A n c _ hn hr
  rintro _ w1 ⟨g, rfl, s1, b1, hg⟩
  go_wp2_with fail
  apply Calls.mono
  · with_reducible exact one_any g 0 6 _ s1 (by omega) (by omega) (by omega)
  rintro _ w2 ⟨o, rfl, s2, g2⟩
  have V2 := bthen b1 (grown_base (B := w.heap.size) hg b1.size g2) (Nat.le_refl _)
  have hlt := s2.lt'
  cases o
  · go_wp2_with fail
    apply Calls.mono
    · with_reducible exact pick_any g _ 8 _ s2 (by omega) (by omega) (by omega)
    rintro _ w3 ⟨b, rfl, ⟨b0, b1'⟩, s3, g3⟩
    go_wp2
    go_ret
    exact ⟨_, rfl, bthen V2 (grown_base (B := w.heap.size) hg V2.size g3) (Nat.le_refl _)⟩
  · have hL := World.ownsRow_lit (base := 0) (e := 2) (size := 1) w2 #[.int .i64 (-1), .int .i64 0, .int .i64 10, .int .i64 11] 4 (Nat.zero_le _) (by simp [maxLen]) (by simp)
    have kA := among_any g (0 + 2) _ 4 [-1, 0, 10, 11] _ (s2.alloc' _) (by omega) (Rs.of_own hL) (fun e => by have e : some g = some w2.heap.size := e; injection e with e; omega) (by omega) (by omega)
    go_wp2_with fail
    apply Calls.mono
    · with_reducible exact kA
    rintro _ w3 ⟨b, rfl, hb, s3, g3⟩
    have g4 := grown_tr (World.grownBy_alloc w2 _ _) g3
    go_wp2
    go_ret
    exact ⟨_, rfl, bthen V2 (grown_base (B := w.heap.size) hg V2.size g4) (Nat.le_refl _)⟩
set_option maxHeartbeats 2000000 in
theorem drawReadPath_any (A : Option Addr) (n c : Nat) (w : World) (hn : n ≤ 100000) (hr : ByteRd w w.heap.size A n) : Calls Tryz.prog 8 #[.slice A n c] w (fun e w' => ∃ s : ByteArray, e = .returned (.string s) ∧ s.size ≤ 5001 ∧ Below w.heap.size w w') := by
  go_enter Tryz.func8, Tryz.ntmps8
  go_wp2_with fail
  apply Calls.mono
  · with_reducible exact from_any A n c _ hn hr
  rintro _ w1 ⟨g, rfl, s1, b1, hg⟩
  go_wp2_with fail
  apply Calls.mono
  · with_reducible exact l05Runs_any g 0 _ s1 (by omega)
  rintro _ w2 ⟨v, xs, rfl, hxl, hown, s2, g2⟩
  have V2 := bthen b1 (grown_base (B := w.heap.size) hg b1.size g2) (Nat.le_refl _)
  have hlt := s2.lt'
  have hrd := Rd.of_own hown
  obtain ⟨va, vc, rfl⟩ := own_sliceR hown
  cases hk : okR xs
  · have kV := fun w' (hb : Below w2.heap.size w2 w') => l05Ok_any _ _ xs w' (hrd.below hb (Nat.le_refl _)) (by omega) false hk
    clear hk
    go_wp2_with fail
    apply Calls.mono
    · with_reducible exact kV _ (Below.refl _ _)
    rintro _ w3 ⟨rfl, hb_w3⟩
    have s3 := s2.below hb_w3
    have g3 := grown_below_tr (World.grownBy.refl w2 (some g)) hb_w3
    have V3 := bthen V2 hb_w3 V2.size
    have hlt3 := s3.lt'
    have hL := World.ownsRow_lit (base := 0) (e := 9) (size := 1) w3 #[.string ⟨#[]⟩, .string ⟨#[116, 111, 112]⟩, .string ⟨#[76, 48]⟩, .string ⟨#[82, 49, 32, 82, 50]⟩, .string ⟨#[82, 48, 32, 76, 49]⟩, .string ⟨#[82]⟩, .string ⟨#[76, 49, 32, 82, 50]⟩, .string ⟨#[114, 49]⟩] 8 (Nat.zero_le _) (by simp [maxLen]) (by simp)
    have kA := text_any g _ 5 _ 8 [⟨#[]⟩, ⟨#[116, 111, 112]⟩, ⟨#[76, 48]⟩, ⟨#[82, 49, 32, 82, 50]⟩, ⟨#[82, 48, 32, 76, 49]⟩, ⟨#[82]⟩, ⟨#[76, 49, 32, 82, 50]⟩, ⟨#[114, 49]⟩] _ (s3.alloc' _) (by omega) (Rs.of_own hL) (fun e => by have e : some g = some w3.heap.size := e; injection e with e; omega) (by omega) (by omega) (by simp; decide)
    go_wp2_with fail
    apply Calls.mono
    · with_reducible exact kA
    rintro _ w4 ⟨s, rfl, hs, s4, g4⟩
    have g5 := grown_tr (World.grownBy_alloc w3 _ _) g4
    go_wp2
    go_ret
    exact ⟨_, rfl, by omega, bthen V3 (grown_base (B := w.heap.size) hg V3.size g5) (Nat.le_refl _)⟩
  · have kV := fun w' (hb : Below w2.heap.size w2 w') => l05Ok_any _ _ xs w' (hrd.below hb (Nat.le_refl _)) (by omega) true hk
    have kT := fun w' (hb : Below w2.heap.size w2 w') => l05Text_any _ _ xs w' (hrd.below hb (Nat.le_refl _)) hk
    have hsz := pt_size hxl
    generalize ptO xs = T at *
    clear hk
    go_wp2_with fail
    apply Calls.mono
    · with_reducible exact kV _ (Below.refl _ _)
    rintro _ w3 ⟨rfl, hb_w3⟩
    go_wp2_with fail
    apply Calls.mono
    · with_reducible exact kT _ hb_w3
    rintro _ w4 ⟨rfl, hb_w4⟩
    have b4 := bthen hb_w3 hb_w4 hb_w3.size
    have s4 := s2.below b4
    have V4 := bthen V2 b4 V2.size
    go_wp2_with fail
    apply Calls.mono
    · with_reducible exact spoil_any g _ T (by omega) _ s4 (by omega)
    rintro _ w5 ⟨s, rfl, hs, s5, g5⟩
    go_wp2
    go_ret
    exact ⟨_, rfl, by omega, bthen V4 (grown_base (B := w.heap.size) hg V4.size g5) (Nat.le_refl _)⟩
end Go.Proofs.YtlmmpeeacjbobaaGreatDoor
namespace Go.Proofs.YtlmmpeeacjbobaaGreatDoor

/-- The fractions so many steps below two bounds. -/
def rowF : Nat → Int → Int → Int → Int → List (Int × Int)
  | 0, p, q, r, t => [(p + r, q + t)]
  | k + 1, p, q, r, t => rowF k p q (p + r) (q + t) ++ rowF k (p + r) (q + t) r t
/-- One step: to the right or to the left. -/
def stB (b : Int × Int × Int × Int) (z : Bool) : Int × Int × Int × Int := if z then (b.1 + b.2.2.1, b.2.1 + b.2.2.2, b.2.2.1, b.2.2.2) else (b.1, b.2.1, b.2.2.1 + b.1, b.2.2.2 + b.2.1)
/-- The steps that a number's last bits tell. -/
def foB : Nat → Nat → Int × Int × Int × Int → Int × Int × Int × Int
  | 0, _, b => b
  | i + 1, k, b => foB i k (stB b (k / 2 ^ i % 2 == 1))
def mdB (b : Int × Int × Int × Int) : Int × Int := (b.1 + b.2.2.1, b.2.1 + b.2.2.2)
def topB : Int × Int × Int × Int := (0, 1, 1, 0)
def elS (l k : Nat) : Int × Int := mdB (foB l k topB)
def rowS (l : Nat) : List (Int × Int) := (List.range (2 ^ l)).map (elS l)
def rowL (l : Nat) : List (Int × Int) := rowF l 0 1 1 0
theorem foB_add (k i : Nat) : ∀ (j : Nat) (b : Int × Int × Int × Int), j ≤ i → foB j (2 ^ i + k) b = foB j k b
  | 0, _, _ => rfl
  | j + 1, b, h => by
    unfold foB
    have e : (2 ^ i + k) / 2 ^ j % 2 = k / 2 ^ j % 2 := by
      have h1 : 2 ^ i = 2 ^ j * 2 * 2 ^ (i - j - 1) := by
        rw [← Nat.pow_succ, ← Nat.pow_add]
        congr 1; omega
      rw [h1, Nat.mul_assoc, Nat.mul_add_div (Nat.two_pow_pos j)]
      omega
    rw [e, foB_add k i j _ (by omega)]
theorem row_same : ∀ (l : Nat) (p q r t : Int), (List.range (2 ^ l)).map (fun k => mdB (foB l k (p, q, r, t))) = rowF l p q r t
  | 0, p, q, r, t => by simp [rowF, foB, mdB]
  | l + 1, p, q, r, t => by
    rw [Nat.pow_succ, Nat.mul_two, List.range_add, List.map_append, List.map_map]
    unfold rowF
    rw [← row_same l p q (p + r) (q + t), ← row_same l (p + r) (q + t) r t]
    congr 1
    · refine List.map_congr_left fun k hk => ?_
      have hk := List.mem_range.1 hk
      show mdB (foB l k (stB (p, q, r, t) (k / 2 ^ l % 2 == 1))) = _
      rw [Nat.div_eq_of_lt hk]
      show mdB (foB l k (p, q, r + p, t + q)) = _
      rw [Int.add_comm r p, Int.add_comm t q]
    · refine List.map_congr_left fun k hk => ?_
      have hk := List.mem_range.1 hk
      show mdB (foB l (2 ^ l + k) (stB (p, q, r, t) ((2 ^ l + k) / 2 ^ l % 2 == 1))) = _
      have e : (2 ^ l + k) / 2 ^ l = 1 := by
        rw [Nat.add_div_left _ (Nat.two_pow_pos l), Nat.div_eq_of_lt hk]
      rw [e, foB_add k l l _ (Nat.le_refl _)]
      rfl
theorem rowS_eq (l : Nat) : rowS l = rowL l := row_same l 0 1 1 0
theorem rowL_len (l : Nat) : (rowL l).length = 2 ^ l := by
  rw [← rowS_eq]; simp [rowS]
/-- What FnPaths asks of a row. -/
def elOk (l : Nat) (x : Int × Int) : Bool := okF x.1 x.2 && (posC x.1 x.2 == 0) && ((ptP x.1 x.2).sum == (l : Int))
def upOk : List (Int × Int) → Bool
  | a :: b :: r => decide (a.1 * b.2 < b.1 * a.2) && upOk (b :: r)
  | _ => true
def rowOk (l : Nat) : Bool := (rowL l).all (elOk l) && upOk (rowL l)
set_option maxRecDepth 100000 in
theorem rows_ok : (List.range 11).all rowOk = true := by decide +kernel
theorem up_get : ∀ (xs : List (Int × Int)) (i : Nat) (a b : Int × Int), upOk xs = true → xs[i]? = some a → xs[i + 1]? = some b → a.1 * b.2 < b.1 * a.2
  | [], i, a, b, _, h, _ => by simp at h
  | [x], i, a, b, _, _, h => by simp at h
  | x :: y :: r, 0, a, b, h, h1, h2 => by
    unfold upOk at h
    rw [Bool.and_eq_true, decide_eq_true_eq] at h
    simp only [List.getElem?_cons_zero, List.getElem?_cons_succ, Option.some.injEq] at h1 h2
    rw [← h1, ← h2]; exact h.1
  | x :: y :: r, i + 1, a, b, h, h1, h2 => by
    unfold upOk at h
    rw [Bool.and_eq_true] at h
    exact up_get (y :: r) i a b h.2 (by simpa using h1) (by simpa using h2)
theorem row_facts {l : Nat} (h : l ≤ 10) : (∀ (i : Nat) (x : Int × Int), (rowL l)[i]? = some x → okF x.1 x.2 = true ∧ posC x.1 x.2 = 0 ∧ (ptP x.1 x.2).sum = (l : Int)) ∧ ∀ (i : Nat) (a b : Int × Int), (rowL l)[i]? = some a → (rowL l)[i + 1]? = some b → a.1 * b.2 < b.1 * a.2 := by
  have h1 := List.all_eq_true.1 rows_ok l (List.mem_range.2 (by omega))
  unfold rowOk at h1
  rw [Bool.and_eq_true] at h1
  refine ⟨fun i x hx => ?_, fun i a b ha hb => up_get _ i a b h1.2 ha hb⟩
  have := List.all_eq_true.1 h1.1 x (List.mem_of_getElem? hx)
  unfold elOk at this
  simp only [Bool.and_eq_true, beq_iff_eq] at this
  exact ⟨this.1.1, this.1.2, this.2⟩
end Go.Proofs.YtlmmpeeacjbobaaGreatDoor
namespace Go.Proofs.YtlmmpeeacjbobaaGreatDoor
open Go.RowKit

/-- The element behind b, where a stands before it. -/
def fnext (N : Int) (a b : Int × Int) : Int × Int := (((N + a.2) / b.2) * b.1 - a.1, ((N + a.2) / b.2) * b.2 - a.2)
def farI (N : Int) : Nat → Int × Int → Int × Int → List (Int × Int)
  | 0, _, _ => []
  | k + 1, a, b => b :: (if b.1 = b.2 then [] else farI N k b (fnext N a b))
def farS (N : Int) : Nat → Int × Int → Int × Int → List (Int × Int)
  | 0, _, _ => []
  | k + 1, a, b => if b.1 ≤ b.2 then b :: farS N k b (fnext N a b) else []
/-- What the walk asks of each step: the numbers are small, the denominator is none below 1; the end is reached. -/
def okP (a b : Int × Int) : Bool := decide (0 ≤ a.1) && decide (a.1 ≤ 100) && decide (0 ≤ a.2) && decide (a.2 ≤ 100) && decide (0 ≤ b.1) && decide (b.1 ≤ 100) && decide (1 ≤ b.2) && decide (b.2 ≤ 100)
def goodI (N : Int) : Nat → Int × Int → Int × Int → Bool
  | 0, _, _ => false
  | k + 1, a, b => okP a b && (if b.1 = b.2 then true else goodI N k b (fnext N a b))
def goodS (N : Int) : Nat → Int × Int → Int × Int → Bool
  | 0, _, _ => false
  | k + 1, a, b => okP a b && (if b.1 ≤ b.2 then goodS N k b (fnext N a b) else true)
/-- The Farey sequence of an order. -/
def farL (N : Int) : List (Int × Int) := (0, 1) :: farI N 600 (0, 1) (1, N)
theorem far_all : (List.range 40).all (fun i => goodI (i + 1) 600 (0, 1) (1, i + 1) && goodS (i + 1) 600 (0, 1) (1, i + 1) && decide (farI (i + 1) 600 (0, 1) (1, i + 1) = farS (i + 1) 600 (0, 1) (1, i + 1)) && decide ((farI (i + 1) 600 (0, 1) (1, i + 1)).length < 600)) = true := by decide +kernel
theorem far_facts {N : Int} (h1 : 1 ≤ N) (h2 : N ≤ 40) : goodI N 600 (0, 1) (1, N) = true ∧ goodS N 600 (0, 1) (1, N) = true ∧ farI N 600 (0, 1) (1, N) = farS N 600 (0, 1) (1, N) ∧ (farI N 600 (0, 1) (1, N)).length < 600 := by
  have h := List.all_eq_true.1 far_all (N - 1).toNat (List.mem_range.2 (by omega))
  have e : (((N - 1).toNat : Nat) : Int) + 1 = N := by omega
  simp only [e, Bool.and_eq_true, decide_eq_true_eq] at h
  exact ⟨h.1.1.1, h.1.1.2, h.1.2, h.2⟩
theorem okP_spec {a b : Int × Int} (h : okP a b = true) : 0 ≤ a.1 ∧ a.1 ≤ 100 ∧ 0 ≤ a.2 ∧ a.2 ≤ 100 ∧ 0 ≤ b.1 ∧ b.1 ≤ 100 ∧ 1 ≤ b.2 ∧ b.2 ≤ 100 := by
  simp only [okP, Bool.and_eq_true, decide_eq_true_eq] at h
  omega
end Go.Proofs.YtlmmpeeacjbobaaGreatDoor
namespace Go.Proofs.YtlmmpeeacjbobaaGreatDoor
open Go.RowKit

/-- append(s, f) of one fraction: s is the call's own. -/
theorem wp_appF {w : World} {ops : Array Oper} {rest : List Oper} {o : Oper} {a : Act} {Q : Exit → Act → World → Prop} (hgd : o.guard = none) (s x : Operand)
    (ho : o.op = .call { callee := .builtin .append, args := #[s, x], argTypes := #[31, 31] })
    (base : Nat) (v : Value) (n : Nat) (xs : List (Int × Int)) (p q : Int) (H c : Nat) (hs : a.eval s = v) (hown : w.ownsRow base 39 2 v n (prs xs))
    (hx : a.eval x = .slice (some ⟨H, 0, none⟩) 1 c) (h0 : w.cell? ⟨H, 0, none⟩ = some (.int .i64 p)) (h1 : w.cell? ⟨H, 1, none⟩ = some (.int .i64 q)) (hb : (n + 1) * 16 ≤ 140737488355328) (hbase : base ≤ w.heap.size)
    (h : ∀ v' w', w'.ownsRow base 39 2 v' (n + 1) (prs (xs ++ [(p, q)])) → w.grownBy w' v.ownBlock → (v'.ownBlock = v.ownBlock ∨ v'.ownBlock = some w.heap.size) → wpList Tryz.prog ops Q rest (a.put o.dst v') w') :
    wpList Tryz.prog ops Q (o :: rest) a w := by
  obtain ⟨i, hi, hz, hsz, hby⟩ := info_parts Tryz.infoF
  refine wpList_append_own_at w hgd s x 31 ho base 39 i _ 2 16 Tryz.underlying31 hi hz hsz hby rfl (by decide) v n (prs xs) hs hown ⟨H, 0, none⟩ 1 c [.int .i64 p, .int .i64 q] hx rfl (fun j u hu => ?_) (by simp [Value.oneCell']) (by simp only [maxLen]; omega) hb hbase ?_
  · match j, hu with
    | 0, hu => simp at hu; subst hu; exact h0
    | 1, hu => simp at hu; subst hu; exact h1
    | j + 2, hu => simp at hu
  · intro v' w' g1 g2 g3 g4
    rw [prs_snoc] at h
    exact h v' w' g1 g2 g4
theorem rowF_len : ∀ (l : Nat) (p q r t : Int), (rowF l p q r t).length = 2 ^ l
  | 0, _, _, _, _ => rfl
  | l + 1, p, q, r, t => by
    unfold rowF
    rw [List.length_append, rowF_len l, rowF_len l, Nat.pow_succ]; omega
/-- What a call of row leaves. -/
def RowP (w : World) (base : Nat) (v : Value) (ys : List (Int × Int)) (e : Ending) (w' : World) : Prop :=
  ∃ v', e = .returned v' ∧ w'.ownsRow base 39 2 v' ys.length (prs ys) ∧ w.grownBy w' v.ownBlock ∧ ∀ j, v'.ownBlock = some j → w.heap.size ≤ j ∨ v.ownBlock = some j
set_option maxHeartbeats 4000000 in
set_option maxRecDepth 100000 in
theorem row_any : ∀ (l : Nat) (p q r t : Int) (B : Int), (0 ≤ p ∧ p ≤ B) → (0 ≤ q ∧ q ≤ B) → (0 ≤ r ∧ r ≤ B) → (0 ≤ t ∧ t ≤ B) → B * 2 ^ (l + 1) ≤ 1000000000 → l ≤ 10 →
    ∀ (base : Nat) (v : Value) (xs : List (Int × Int)) (w : World), w.ownsRow base 39 2 v xs.length (prs xs) → base ≤ w.heap.size → xs.length + 2 ^ l ≤ 5000 →
    Calls Tryz.prog 35 #[v, .int .i64 p, .int .i64 q, .int .i64 r, .int .i64 t, .int .i64 (l : Nat)] w (RowP w base v (xs ++ rowF l p q r t)) := by
  intro l
  induction l with
  | zero =>
    intro p q r t B hp hq hr ht hB _ base v xs w hown hbase hlen
    have hB' : B ≤ 500000000 := by omega
    have ho1 := hown.alloc (.cells #[.int .i64 (p + r), .int .i64 (q + t)] 39)
    have N1 := Blk.new w 39 #[.int .i64 (p + r), .int .i64 (q + t)]
    have x0 := N1.cell 0
    have x1 := N1.cell 1
    have xz := N1.lt
    have ho2 := ho1.alloc (.cells #[.int .i64 (p + r), .int .i64 (q + t)] 39)
    have N2 := Blk.new (w.alloc (.cells #[.int .i64 (p + r), .int .i64 (q + t)] 39)) 39 #[.int .i64 (p + r), .int .i64 (q + t)]
    rw [World.size_alloc] at N2
    have y0 := N2.cell 0
    have y1 := N2.cell 1
    have g2 : w.grownBy ((w.alloc (.cells #[.int .i64 (p + r), .int .i64 (q + t)] 39)).alloc (.cells #[.int .i64 (p + r), .int .i64 (q + t)] 39)) v.ownBlock := (World.grownBy_alloc w _ _).trans (World.grownBy_alloc _ _ _)
    clear N1 N2 ho1 hown
    go_enter Tryz.func35, Tryz.ntmps35
    go_wp2_with (at_builtin; refine wp_appF rfl (.tmp 23) (.tmp 25) rfl base v xs.length xs (p + r) (q + t) (w.heap.size + 1) 1 rfl ho2 rfl y0 y1 (by omega) (by simp; omega) ?_; intro v9 w9 hown9 hgr9 hat9)
    go_ret
    refine ⟨_, rfl, ?_, g2.trans hgr9, ?_⟩
    · rw [List.length_append]; exact hown9
    · intro j hj
      have hj : v9.ownBlock = some j := hj
      rcases hat9 with e | e
      · right; rw [← e]; exact hj
      · left
        rw [e] at hj; injection hj with hj
        simp at hj; omega
  | succ l ih =>
    intro p q r t B hp hq hr ht hB hl base v xs w hown hbase hlen
    have hpw : 2 ^ (l + 1) = 2 * 2 ^ l := by rw [Nat.pow_succ, Nat.mul_comm]
    have hB2 : 2 * B * 2 ^ (l + 1) ≤ 1000000000 := by
      rw [Int.pow_succ] at hB
      rw [Int.mul_comm 2 B, Int.mul_assoc, Int.mul_comm 2 (2 ^ (l + 1))]
      exact hB
    have hB3 : B ≤ 500000000 := by
      have h1 : (1 : Int) ≤ 2 ^ (l + 1) := by
        have := Nat.one_le_two_pow (n := l + 1)
        have e : (2 : Int) ^ (l + 1) = ((2 ^ (l + 1) : Nat) : Int) := by rw [Int.natCast_pow]; rfl
        rw [e]; omega
      have := Int.mul_le_mul_of_nonneg_left h1 (show 0 ≤ 2 * B by omega)
      omega
    have ho1 := hown.alloc (.cells #[.int .i64 (p + r), .int .i64 (q + t)] 39)
    have N1 := Blk.new w 39 #[.int .i64 (p + r), .int .i64 (q + t)]
    have g0 : w.grownBy (w.alloc (.cells #[.int .i64 (p + r), .int .i64 (q + t)] 39)) v.ownBlock := World.grownBy_alloc w _ _
    have hbn : some w.heap.size ≠ v.ownBlock := fun e => by have := (hown.lt _ e.symm).2; omega
    have z1 : w.heap.size < (w.alloc (.cells #[.int .i64 (p + r), .int .i64 (q + t)] 39)).heap.size := by simp
    have ih1 := ih p q (p + r) (q + t) (2 * B) (by omega) (by omega) (by omega) (by omega) hB2 (by omega) base v xs (w.alloc (.cells #[.int .i64 (p + r), .int .i64 (q + t)] 39)) ho1 (by omega) (by omega)
    have ih2 := fun v1 w1 h1 h2 => ih (p + r) (q + t) r t (2 * B) (by omega) (by omega) (by omega) (by omega) hB2 (by omega) base v1 (xs ++ rowF l p q (p + r) (q + t)) w1 h1 h2 (by
      have h := rowF_len l p q (p + r) (q + t)
      rw [List.length_append, h]; omega)
    have x0 := N1.cell 0
    have x1 := N1.cell 1
    have hl0 : ¬ ((l : Int) + 1 = 0) := by omega
    have hbp : (-9223372036854775808 ≤ p + r ∧ p + r ≤ 9223372036854775807) ∧ (-9223372036854775808 ≤ q + t ∧ q + t ≤ 9223372036854775807) := by omega
    obtain ⟨⟨b1, b2⟩, b3, b4⟩ := hbp
    have hlb : (l : Int) ≤ 10 := by omega
    rw [Int.natCast_add]
    clear hown ih hB hB2 hpw
    go_enter Tryz.func35, Tryz.ntmps35
    go_wp2_with fail
    apply Calls.mono
    · with_reducible exact ih1
    rintro _ w1 ⟨v1, rfl, o1, g1, a1⟩
    have n1 := N1.grown g1 hbn
    have y0 := n1.cell 0
    have y1 := n1.cell 1
    have yz := n1.lt
    have zw := g1.size
    have ih2' := ih2 v1 w1 o1 (by omega)
    clear ih1 ih2 x0 x1 ho1 o1
    go_wp2_with fail
    apply Calls.mono
    · with_reducible exact ih2'
    rintro _ w2 ⟨v2, rfl, o2, g2, a2⟩
    have gA := g0.trans g1
    have gB := gA.andThen g2 (fun j hj => by
      rcases a1 j hj with h | h
      · left; omega
      · right; exact h)
    clear y0 y1 yz ih2'
    go_wp2
    go_ret
    refine ⟨_, rfl, ?_, gB, ?_⟩
    · have e : xs ++ rowF (l + 1) p q r t = (xs ++ rowF l p q (p + r) (q + t)) ++ rowF l (p + r) (q + t) r t := by
        rw [List.append_assoc]; rfl
      rw [e]; exact o2
    · intro j hj
      have hj : v2.ownBlock = some j := hj
      rcases a2 j hj with h | h
      · left; omega
      · rcases a1 j h with h | h
        · left; omega
        · right; exact h
end Go.Proofs.YtlmmpeeacjbobaaGreatDoor
namespace Go.Proofs.YtlmmpeeacjbobaaGreatDoor
open Go.RowKit

def FarSR (w : World) (N : Int) (ba bb : Nat) (k : Nat) (v : Value) (wr : World) : Prop :=
  ∃ (a b : Int × Int) (xs : List (Int × Int)), xs.length + k ≤ 601 ∧ goodS N k a b = true ∧ xs ++ farS N k a b = farL N ∧
    wr.ownsRow w.heap.size 39 2 v xs.length (prs xs) ∧ Blk wr ba 39 #[.int .i64 a.1, .int .i64 a.2] ∧ Blk wr bb 39 #[.int .i64 b.1, .int .i64 b.2] ∧
    v.ownBlock ≠ some ba ∧ v.ownBlock ≠ some bb ∧ Below w.heap.size w wr
def FarIR (w : World) (N : Int) (k : Nat) (v va vb : Value) (wr : World) : Prop :=
  ∃ (ba bb : Nat) (a b : Int × Int) (xs : List (Int × Int)), xs.length + k ≤ 601 ∧ goodI N k a b = true ∧ xs ++ farI N k a b = farL N ∧
    wr.ownsRow w.heap.size 39 2 v xs.length (prs xs) ∧ va = .pointer (some ⟨ba, 0, none⟩) ∧ vb = .pointer (some ⟨bb, 0, none⟩) ∧ Blk wr ba 39 #[.int .i64 a.1, .int .i64 a.2] ∧ Blk wr bb 39 #[.int .i64 b.1, .int .i64 b.2] ∧
    w.heap.size ≤ ba ∧ w.heap.size ≤ bb ∧ ba ≠ bb ∧ v.ownBlock ≠ some ba ∧ v.ownBlock ≠ some bb ∧ Below w.heap.size w wr
theorem own_lit1 (w : World) (x y : Int) : (w.alloc (.cells #[.int .i64 x, .int .i64 y] 39)).ownsRow w.heap.size 39 2 (.slice (some ⟨w.heap.size, 0, none⟩) 1 1) 1 (prs [(x, y)]) :=
  World.ownsRow_lit (base := w.heap.size) (size := 2) (e := 39) w #[.int .i64 x, .int .i64 y] 1 (Nat.le_refl _) (by simp [maxLen]) rfl
theorem blk_at (W : World) (t : TypeId) (cs : Array Value) (n : Nat) (hn : W.heap.size = n) (o : Obj) : Blk ((W.alloc (.cells cs t)).alloc o).drew n t cs := by
  subst hn
  exact ((Blk.new W t cs).alloc o).drew
theorem blk_at1 (W : World) (t : TypeId) (cs : Array Value) (n : Nat) (hn : W.heap.size = n) : Blk (W.alloc (.cells cs t)).drew n t cs := by
  subst hn
  exact (Blk.new W t cs).drew
end Go.Proofs.YtlmmpeeacjbobaaGreatDoor
namespace Go.Proofs.YtlmmpeeacjbobaaGreatDoor
open Go.RowKit

/-- A call returns a new row of these cells, and a code. -/
def RetRow2 (w : World) (e : TypeId) (size n : Nat) (xs : List Value) (code : Int) (en : Ending) (w' : World) : Prop := ∃ v, en = .returned (.tuple #[v, .int .i64 code]) ∧ w'.ownsRow w.heap.size e size v n xs ∧ Below w.heap.size w w'
def seqM (N : Int) : List (Int × Int) × Int := if inB N 1 40 then (farL N, 0) else ([], 2)
theorem farL_len {N : Int} (h1 : 1 ≤ N) (h2 : N ≤ 40) : 1 ≤ (farL N).length ∧ (farL N).length ≤ 600 := by
  have := (far_facts h1 h2).2.2.2
  simp only [farL, List.length_cons]
  omega

/-- FareyAt. -/
def atM (N k : Int) : Int × Int × Int := if inB N 1 40 then (if inB k 0 (((farL N).length : Int) - 1) then (((farL N).getD k.toNat (0, 0)).1, ((farL N).getD k.toNat (0, 0)).2, 0) else (0, 0, 3)) else (0, 0, 2)
/-- The code of an order and a fraction. -/
def chkM (N M n d : Int) : Int := if okF n d then (if inB N 1 M && (decide (0 ≤ n) && decide (n ≤ d)) then 0 else 2) else 1
end Go.Proofs.YtlmmpeeacjbobaaGreatDoor
namespace Go.Proofs.YtlmmpeeacjbobaaGreatDoor
open Go.RowKit

def rtM (l : Int) : List (Int × Int) × Int := if inB l 0 10 then (rowL l.toNat, 0) else ([], 2)
theorem rowOfTreeI_any (l : Int) (w : World) : Calls Tryz.prog 11 #[.int .i64 l] w (RetRow2 w 39 2 (rtM l).1.length (prs (rtM l).1) (rtM l).2) := by
  cases hI : inB l 0 10
  · have e : rtM l = ([], 2) := by unfold rtM; rw [hI]; rfl
    rw [e]
    go_enter Tryz.func11, Tryz.ntmps11
    go_wp2_with fail
    apply Calls.mono
    · with_reducible exact within_any _ _ _ false hI _
    rintro _ w1 ⟨rfl, hb_w1⟩
    obtain ⟨hc_w1, hf_w1, hs_w1⟩ := bcell hb_w1
    try simp at hs_w1
    go_wp2
    go_ret2
    exact ⟨_, rfl, World.ownsRow_nil _ _ _ _, hb_w1⟩
  · have e : rtM l = (rowL l.toNat, 0) := by unfold rtM; rw [hI]; rfl
    rw [e]
    obtain ⟨l0, l1⟩ := inB_iff.1 hI
    obtain ⟨k, rfl⟩ : ∃ k : Nat, l = k := ⟨l.toNat, by omega⟩
    rw [show ((k : Int)).toNat = k by omega]
    have hk : k ≤ 10 := by omega
    have hpw : 2 ^ k ≤ 2 ^ 10 := Nat.pow_le_pow_right (by decide) hk
    have hpz : (1 : Int) * 2 ^ (k + 1) ≤ 1000000000 := by
      have : 2 ^ (k + 1) ≤ 2 ^ 11 := Nat.pow_le_pow_right (by decide) (by omega)
      have e : (2 : Int) ^ (k + 1) = ((2 ^ (k + 1) : Nat) : Int) := by rw [Int.natCast_pow]; rfl
      rw [e]; omega
    go_enter Tryz.func11, Tryz.ntmps11
    go_wp2_with fail
    apply Calls.mono
    · with_reducible exact within_any _ _ _ true hI _
    rintro _ w1 ⟨rfl, hb_w1⟩
    obtain ⟨hc_w1, hf_w1, hs_w1⟩ := bcell hb_w1
    try simp at hs_w1
    have kR := row_any k 0 1 1 0 1 (by omega) (by omega) (by omega) (by omega) hpz hk w.heap.size (.slice none 0 0) [] w1 (World.ownsRow_nil _ _ _ _) hb_w1.size (by simp; omega)
    go_wp2_with fail
    apply Calls.mono
    · with_reducible exact kR
    rintro _ w2 ⟨v2, rfl, o2, g2, _⟩
    have b2 := hb_w1.grown g2 hb_w1.size (fun j hj => by simp [Value.ownBlock] at hj)
    go_wp2
    go_ret2
    exact ⟨_, rfl, o2, b2⟩
def StB (w : World) (b : Nat) (x : Int × Int × Int × Int) : Prop := Blk w b 61 #[.int .i64 x.1, .int .i64 x.2.1, .int .i64 x.2.2.1, .int .i64 x.2.2.2]
def smB (x : Int × Int × Int × Int) (B : Nat) : Prop := (0 ≤ x.1 ∧ x.1 ≤ (B : Int)) ∧ (0 ≤ x.2.1 ∧ x.2.1 ≤ (B : Int)) ∧ (0 ≤ x.2.2.1 ∧ x.2.2.1 ≤ (B : Int)) ∧ (0 ≤ x.2.2.2 ∧ x.2.2.2 ≤ (B : Int))
def RtR (w : World) (n P : Nat) (k : Nat) (v vi : Value) (wr : World) : Prop :=
  ∃ i : Nat, i ≤ P ∧ P ≤ i + k ∧ vi = .int .i64 (i : Nat) ∧ wr.ownsRow w.heap.size 39 2 v i (prs ((rowS n).take i)) ∧ Below w.heap.size w wr
def InR (W : World) (b n i : Nat) (k : Nat) (vj : Value) (wq : World) : Prop :=
  ∃ (m B : Nat) (x : Int × Int × Int × Int), m ≤ n ∧ m ≤ k ∧ vj = .int .i64 ((m : Int) - 1) ∧ StB wq b x ∧ foB m i x = foB n i topB ∧ smB x B ∧ B * 2 ^ m ≤ 1024 ∧ W.grownBy wq (some b)
theorem wrap64_fit {z : Int} (h1 : 0 ≤ z) (h2 : z ≤ 9223372036854775807) : wrap64 z = z := by unfold wrap64; omega
theorem pow_fit {n : Nat} (h : n ≤ 10) : ∃ P : Nat, P = 2 ^ n ∧ 1 ≤ P ∧ P ≤ 1024 ∧ wrap64 ((2 : Int) ^ n) = (P : Int) := by
  have : n = 0 ∨ n = 1 ∨ n = 2 ∨ n = 3 ∨ n = 4 ∨ n = 5 ∨ n = 6 ∨ n = 7 ∨ n = 8 ∨ n = 9 ∨ n = 10 := by omega
  rcases this with rfl | rfl | rfl | rfl | rfl | rfl | rfl | rfl | rfl | rfl | rfl <;> exact ⟨_, rfl, by decide, by decide, by rw [wrap64_fit (by decide) (by decide)]; rfl⟩
theorem and_one (a : Nat) (h : a < 4096) : bits .and .i64 (a : Int) 1 = ((a % 2 : Nat) : Int) := by
  have h1 : (BitVec.ofInt 64 (a : Int)).toNat = a := by
    rw [BitVec.ofInt_natCast, BitVec.toNat_ofNat]; exact Nat.mod_eq_of_lt (by omega)
  have h2 : (BitVec.ofInt 64 1).toNat = 1 := by decide
  show IntKind.i64.wrap ((BitVec.ofInt 64 (a : Int) &&& BitVec.ofInt 64 1).toNat : Int) = _
  rw [BitVec.toNat_and, h1, h2, Nat.and_one_is_mod, IntKind.wrap_i64]
  omega
theorem bit_at (i e : Nat) (h : i < 4096) : (bits .and .i64 ((i : Int) / 2 ^ e) 1 == 1) = (i / 2 ^ e % 2 == 1) := by
  have h1 : (i : Int) / 2 ^ e = ((i / 2 ^ e : Nat) : Int) := by
    rw [Int.natCast_ediv, Int.natCast_pow]; rfl
  have h2 : i / 2 ^ e ≤ i := Nat.div_le_self _ _
  rw [h1, and_one _ (by omega)]
  rw [Bool.eq_iff_iff, beq_iff_eq, beq_iff_eq]
  omega
theorem rowS_snoc {n i : Nat} (h : i < 2 ^ n) : (rowS n).take (i + 1) = (rowS n).take i ++ [elS n i] := by
  have hl : (rowS n).length = 2 ^ n := by simp [rowS]
  rw [List.take_succ_eq_append_getElem (by omega)]
  congr 2
  simp [rowS]
set_option maxHeartbeats 8000000 in
set_option maxRecDepth 100000 in
theorem rowOfTreeS_any (l : Int) (w : World) : Calls Tryz.prog 12 #[.int .i64 l] w (RetRow2 w 39 2 (rtM l).1.length (prs (rtM l).1) (rtM l).2) := by
  cases hI : inB l 0 10
  · have e : rtM l = ([], 2) := by unfold rtM; rw [hI]; rfl
    rw [e]
    go_enter Tryz.func12, Tryz.ntmps12
    go_wp2_with fail
    apply Calls.mono
    · with_reducible exact l00In_any _ _ _ false hI _
    rintro _ w1 ⟨rfl, hb_w1⟩
    obtain ⟨hc_w1, hf_w1, hs_w1⟩ := bcell hb_w1
    try simp at hs_w1
    go_wp2
    go_ret2
    exact ⟨_, rfl, World.ownsRow_nil _ _ _ _, hb_w1⟩
  · have e : rtM l = (rowL l.toNat, 0) := by unfold rtM; rw [hI]; rfl
    rw [e, ← rowS_eq]
    obtain ⟨l0, l1⟩ := inB_iff.1 hI
    obtain ⟨n, rfl⟩ : ∃ k : Nat, l = k := ⟨l.toNat, by omega⟩
    rw [show ((n : Int)).toNat = n by omega]
    have hk : n ≤ 10 := by omega
    go_enter Tryz.func12, Tryz.ntmps12
    go_wp2_with fail
    apply Calls.mono
    · with_reducible exact l00In_any _ _ _ true hI _
    rintro _ w1 ⟨rfl, hb_w1⟩
    obtain ⟨hc_w1, hf_w1, hs_w1⟩ := bcell hb_w1
    try simp at hs_w1
    go_wp2_with fail
    obtain ⟨P, hP, hP1, hP2, hsh⟩ := pow_fit hk
    have hrl : (rowS n).length = P := by rw [hP]; simp [rowS]
    have HP := Lib.hid hP
    have HRL := Lib.hid hrl
    clear hP hrl
    go_loopg [4, 5] P (RtR w n P)
    case atStart => exact ⟨0, by omega, by omega, rfl, by simpa [prs] using own_base (World.ownsRow_lit (base := w1.heap.size) (size := 2) w1 #[] 0 (Nat.le_refl _) (by simp [maxLen]) (by simp)) hb_w1.size, by repeat' (first | (with_reducible exact Below.refl _ _) | (with_reducible assumption) | (with_reducible refine Below.alloc ?_ ?_ _) | (with_reducible refine Below.drew ?_) | (with_reducible refine bdrewN ?_ _) | (with_reducible refine Below.setCell ?_ ?_ _) | (with_reducible refine bthen ?_ (by assumption) ?_) | go_size)⟩
    case round =>
      obtain ⟨i, hi1, hi2, rfl, hown, hbw⟩ := hrel
      have hs := hbw.size
      by_cases hlt : i < P
      · have hlt' : (i : Int) < (P : Int) := by omega
        have HSN := Lib.hid (rowS_snoc (n := n) (i := i) (by rw [← HP.out]; exact hlt))
        have N0 := Blk.new wr 61 #[.int .i64 0, .int .i64 1, .int .i64 1, .int .i64 0]
        have hownW := hown.alloc (.cells #[.int .i64 0, .int .i64 1, .int .i64 1, .int .i64 0] 61)
        have bW := hbw.alloc hs (.cells #[.int .i64 0, .int .i64 1, .int .i64 1, .int .i64 0] 61)
        have hbne : some wr.heap.size ≠ u4.ownBlock := fun e => by have := (hown.lt _ e.symm).2; omega
        clear hown hbw
        go_wp2_with fail
        generalize wr.alloc (.cells #[.int .i64 0, .int .i64 1, .int .i64 1, .int .i64 0] 61) = W at *
        generalize wr.heap.size = b at *
        clear hsh
        go_loopg [7] n (InR W b n i)
        case atStart => exact ⟨n, 1, topB, by omega, by omega, rfl, N0, rfl, by unfold smB topB; simp, by rw [← HP.out]; omega, World.grownBy.refl _ _⟩
        case round =>
          obtain ⟨m, B, ⟨p, q, r, t⟩, hm1, hm2, rfl, hB0, hfo, hsm, hBm, hgw⟩ := hrel
          unfold smB at hsm
          simp only at hsm
          obtain ⟨⟨p0, p1⟩, ⟨q0, q1⟩, ⟨r0, r1⟩, t0, t1⟩ := hsm
          have d0 : wr.cell? ⟨b, 0, none⟩ = some (.int .i64 p) := hB0.cell 0
          have d1 : wr.cell? ⟨b, 1, none⟩ = some (.int .i64 q) := hB0.cell 1
          have d2 : wr.cell? ⟨b, 2, none⟩ = some (.int .i64 r) := hB0.cell 2
          have d3 : wr.cell? ⟨b, 3, none⟩ = some (.int .i64 t) := hB0.cell 3
          have f0 : wr.frozen? ⟨b, 0, none⟩ = false := hB0.frozen 0
          have f1 : wr.frozen? ⟨b, 1, none⟩ = false := hB0.frozen 1
          have f2 : wr.frozen? ⟨b, 2, none⟩ = false := hB0.frozen 2
          have f3 : wr.frozen? ⟨b, 3, none⟩ = false := hB0.frozen 3
          have zB := hB0.lt
          have hBs : B ≤ 1024 := by
            have h1 := Nat.one_le_two_pow (n := m)
            have h2 : B * 1 ≤ B * 2 ^ m := Nat.mul_le_mul_left _ h1
            omega
          cases m with
          | zero =>
            have hown2 := hownW.kept hgw (.inr (fun e => hbne e.symm))
            have bw2 : Below w.heap.size w wr := bW.grown hgw bW.size (fun j hj => by injection hj with hj; omega)
            have hsz := bw2.size
            have ho2 := hown2.alloc (.cells #[.int .i64 (p + r), .int .i64 (q + t)] 39)
            have N2 := Blk.new wr 39 #[.int .i64 (p + r), .int .i64 (q + t)]
            have y0 := N2.cell 0
            have y1 := N2.cell 1
            have g2 : wr.grownBy (wr.alloc (.cells #[.int .i64 (p + r), .int .i64 (q + t)] 39)) u4.ownBlock := World.grownBy_alloc wr _ _
            have hel : elS n i = (p + r, q + t) := by unfold elS; rw [← hfo]; rfl
            have HE := Lib.hid hel
            have hlt4 : ∀ j, u4.ownBlock = some j → w.heap.size ≤ j := fun j hj => (hown2.lt j hj).1
            have BW := Lib.hid bw2
            have HL4 := Lib.hid hlt4
            rw [show ((0 : Nat) : Int) - 1 = -1 from rfl]
            clear hel hlt4 hown2 hownW hfo hB0 hgw N2 N0 bw2 bW
            go_wp2_with (at_builtin; refine wp_appF rfl (.tmp 56) (.tmp 68) rfl w.heap.size u4 i ((rowS n).take i) (p + r) (q + t) wr.heap.size 1 rfl ho2 rfl y0 y1 (by omega) (by simp; omega) ?_; intro v9 w9 hown9 hgr9 hat9)
            go_roundg (P - (i + 1))
            case measure => omega
            case rel => exact ⟨i + 1, by omega, by omega, by go_num, by rw [HSN.out, HE.out]; exact hown9, BW.out.grown (g2.trans hgr9) BW.out.size HL4.out⟩
          | succ m =>
            have hme : ((m + 1 : Nat) : Int) - 1 = (m : Int) := by omega
            rw [hme]
            have hge : ¬ ((m : Int) < 0) := by omega
            have hB2 : 2 * B * 2 ^ m ≤ 1024 := by rw [Nat.pow_succ] at hBm; rw [Nat.mul_comm 2 B, Nat.mul_assoc, Nat.mul_comm 2]; exact hBm
            have hbt := bit_at i m (by omega)
            have hfo2 : foB m i (stB (p, q, r, t) (i / 2 ^ m % 2 == 1)) = foB n i topB := hfo
            have HB0 := Lib.hid hB0
            have HG := Lib.hid hgw
            clear hB0 hgw hfo hme hBm
            cases hz : (i / 2 ^ m % 2 == 1)
            · rw [hz] at hbt hfo2
              have HF := Lib.hid hfo2
              clear hfo2 hz
              go_wp2
              go_roundg (gk - 1)
              case measure => omega
              case rel => exact ⟨m, 2 * B, (p, q, r + p, t + q), by omega, by omega, rfl, (HB0.out.set_ 2 _).set_ 3 _, HF.out, by unfold smB; simp only; omega, hB2, grown_tr HG.out (grown_set2 wr b 2 3 _ _)⟩
            · rw [hz] at hbt hfo2
              have HF := Lib.hid hfo2
              clear hfo2 hz
              go_wp2
              go_roundg (gk - 1)
              case measure => omega
              case rel => exact ⟨m, 2 * B, (p + r, q + t, r, t), by omega, by omega, rfl, (HB0.out.set_ 0 _).set_ 1 _, HF.out, by unfold smB; simp only; omega, hB2, grown_tr HG.out (grown_set2 wr b 0 1 _ _)⟩
      · obtain rfl : i = P := by omega
        rw [← HRL.out, List.take_length] at hown
        go_wp2
        go_ret2
        exact ⟨_, rfl, hown, hbw⟩
end Go.Proofs.YtlmmpeeacjbobaaGreatDoor
namespace Go.Proofs.YtlmmpeeacjbobaaGreatDoor
open Go.RowKit

theorem drop_cons' {ws : List (List UInt8)} {i : Nat} {x : List UInt8} (h : ws[i]? = some x) : ws.drop i = x :: ws.drop (i + 1) := by
  obtain ⟨hlt, he⟩ := List.getElem?_eq_some_iff.1 h
  rw [List.drop_eq_getElem_cons hlt, he]
/-- The reference's state: the words read so far. -/
def RpS (ws : List (List UInt8)) (M : Option (List Int)) (i : Nat) (xs : List Int) : Prop :=
  (i = 0 ∧ xs = [] ∧ sW ws = M) ∨ (1 ≤ i ∧ (sQ xs.length (ws.drop i)).map (xs ++ ·) = M)
/-- The program's state. -/
def RpI (ws : List (List UInt8)) (M : Option (List Int)) (i : Nat) (xs : List Int) : Prop :=
  (i = 0 ∧ xs = [] ∧ iW ws = M) ∨ (1 ≤ i ∧ (iQ (ws.drop i)).map (xs ++ ·) = M)
theorem sq_short {x : List UInt8} {r : List (List UInt8)} (h : x.length < 2) (t : Nat) : sQ t (x :: r) = none := by unfold sQ; rw [if_pos h]
theorem iq_short {x : List UInt8} {r : List (List UInt8)} (h : x.length < 2) : iQ (x :: r) = none := by unfold iQ; rw [if_pos h]
theorem rps_short {ws : List (List UInt8)} {M : Option (List Int)} {i : Nat} {xs : List Int} {x : List UInt8} (h : RpS ws M i xs) (hx : ws[i]? = some x) (hl : x.length < 2) : M = none := by
  rcases h with ⟨rfl, _, h⟩ | ⟨_, h⟩
  · have e := drop_cons' hx
    rw [List.drop_zero] at e
    rw [← h]; unfold sW
    rw [e, sq_short hl, sq_short hl]
    split <;> rfl
  · rw [drop_cons' hx, sq_short hl] at h
    exact h.symm
theorem rpi_short {ws : List (List UInt8)} {M : Option (List Int)} {i : Nat} {xs : List Int} {x : List UInt8} (h : RpI ws M i xs) (hx : ws[i]? = some x) (hl : x.length < 2) : M = none := by
  rcases h with ⟨rfl, _, h⟩ | ⟨_, h⟩
  · have e := drop_cons' hx
    rw [List.drop_zero] at e
    rw [← h]; unfold iW
    rw [e, iq_short hl]
    split <;> rfl
  · rw [drop_cons' hx, iq_short hl] at h
    exact h.symm
theorem rps_L {ws : List (List UInt8)} {M : Option (List Int)} {xs : List Int} {x : List UInt8} (h : RpS ws M 0 xs) (hx : ws[0]? = some x) (hL : x.head? = some 76) : xs = [] ∧ (sQ 1 (ws.drop 0)).map ([0] ++ ·) = M := by
  rcases h with ⟨_, hxs, h⟩ | ⟨h, _⟩
  · refine ⟨hxs, ?_⟩
    have hl : isL ws = true := by
      have e := drop_cons' hx
      rw [List.drop_zero] at e
      rw [e]; show (x.head? == some 76) = true; rw [hL]; rfl
    unfold sW at h
    rw [hl, if_pos rfl] at h
    exact h
  · omega
theorem rpi_L {ws : List (List UInt8)} {M : Option (List Int)} {xs : List Int} {x : List UInt8} (h : RpI ws M 0 xs) (hx : ws[0]? = some x) (hL : x.head? = some 76) : xs = [] ∧ (iQ (ws.drop 0)).map ([0] ++ ·) = M := by
  rcases h with ⟨_, hxs, h⟩ | ⟨h, _⟩
  · refine ⟨hxs, ?_⟩
    have hl : isL ws = true := by
      have e := drop_cons' hx
      rw [List.drop_zero] at e
      rw [e]; show (x.head? == some 76) = true; rw [hL]; rfl
    unfold iW at h
    rw [hl, if_pos rfl] at h
    exact h
  · omega
theorem rps_zero {ws : List (List UInt8)} {M : Option (List Int)} {xs : List Int} (h : RpS ws M 0 xs) : xs = [] := by
  rcases h with ⟨_, h, _⟩ | ⟨h, _⟩
  · exact h
  · omega
theorem rpi_zero {ws : List (List UInt8)} {M : Option (List Int)} {xs : List Int} (h : RpI ws M 0 xs) : xs = [] := by
  rcases h with ⟨_, h, _⟩ | ⟨h, _⟩
  · exact h
  · omega
theorem map_nil_app (o : Option (List Int)) : o.map (([] : List Int) ++ ·) = o := by cases o <;> rfl
theorem rps_go {ws : List (List UInt8)} {M : Option (List Int)} {i : Nat} {xs : List Int} {x : List UInt8} (h : RpS ws M i xs) (hx : ws[i]? = some x) (hn : i = 0 → x.head? ≠ some 76) : (sQ xs.length (ws.drop i)).map (xs ++ ·) = M := by
  rcases h with ⟨rfl, rfl, h⟩ | ⟨_, h⟩
  · have hl : isL ws = false := by
      have e := drop_cons' hx
      rw [List.drop_zero] at e
      rw [e]; unfold isL
      exact beq_eq_false_iff_ne.2 (hn rfl)
    unfold sW at h
    rw [hl, if_neg (by decide)] at h
    rw [map_nil_app]
    exact h
  · exact h
theorem rpi_go {ws : List (List UInt8)} {M : Option (List Int)} {i : Nat} {xs : List Int} {x : List UInt8} (h : RpI ws M i xs) (hx : ws[i]? = some x) (hn : i = 0 → x.head? ≠ some 76) : (iQ (ws.drop i)).map (xs ++ ·) = M := by
  rcases h with ⟨rfl, rfl, h⟩ | ⟨_, h⟩
  · have hl : isL ws = false := by
      have e := drop_cons' hx
      rw [List.drop_zero] at e
      rw [e]; unfold isL
      exact beq_eq_false_iff_ne.2 (hn rfl)
    unfold iW at h
    rw [hl, if_neg (by decide)] at h
    rw [map_nil_app]
    exact h
  · exact h
theorem sq_cons {x : List UInt8} {r : List (List UInt8)} (h : ¬ x.length < 2) (t : Nat) : sQ t (x :: r) = match rdM (x.drop 1) with
    | some n => if n = 0 ∨ x.head? ≠ some (ltC t) then none else (sQ (t + 1) r).map (n :: ·)
    | none => none := by
  conv => lhs; unfold sQ
  rw [if_neg h]
  rfl
theorem iq_cons {x : List UInt8} {r : List (List UInt8)} (h : ¬ x.length < 2) : iQ (x :: r) = match rdM (x.drop 1) with
    | some n => (iQ r).map (n :: ·)
    | none => none := by
  conv => lhs; unfold iQ
  rw [if_neg h]
  rfl
theorem sq_none {ws : List (List UInt8)} {M : Option (List Int)} {i t : Nat} {xs : List Int} {x : List UInt8} (h : (sQ t (ws.drop i)).map (xs ++ ·) = M) (hx : ws[i]? = some x) (hl : ¬ x.length < 2) (hr : rdM (x.drop 1) = none) : M = none := by
  rw [drop_cons' hx, sq_cons hl, hr] at h
  exact h.symm
theorem iq_none {ws : List (List UInt8)} {M : Option (List Int)} {i : Nat} {xs : List Int} {x : List UInt8} (h : (iQ (ws.drop i)).map (xs ++ ·) = M) (hx : ws[i]? = some x) (hl : ¬ x.length < 2) (hr : rdM (x.drop 1) = none) : M = none := by
  rw [drop_cons' hx, iq_cons hl, hr] at h
  exact h.symm
theorem sq_bad {ws : List (List UInt8)} {M : Option (List Int)} {i t : Nat} {xs : List Int} {x : List UInt8} {n : Int} (h : (sQ t (ws.drop i)).map (xs ++ ·) = M) (hx : ws[i]? = some x) (hl : ¬ x.length < 2) (hr : rdM (x.drop 1) = some n) (hb : n = 0 ∨ x.head? ≠ some (ltC t)) : M = none := by
  rw [drop_cons' hx, sq_cons hl, hr] at h
  simp only at h
  rw [if_pos hb] at h
  exact h.symm
theorem sq_step {ws : List (List UInt8)} {M : Option (List Int)} {i t : Nat} {xs : List Int} {x : List UInt8} {n : Int} (h : (sQ t (ws.drop i)).map (xs ++ ·) = M) (hx : ws[i]? = some x) (hl : ¬ x.length < 2) (hr : rdM (x.drop 1) = some n) (h0 : n ≠ 0) (hd : x.head? = some (ltC t)) : (sQ (t + 1) (ws.drop (i + 1))).map ((xs ++ [n]) ++ ·) = M := by
  rw [drop_cons' hx, sq_cons hl, hr] at h
  simp only at h
  rw [if_neg (fun e => e.elim h0 (fun e => e hd)), Option.map_map] at h
  rw [← h]
  congr 1
  funext y
  simp
theorem iq_step {ws : List (List UInt8)} {M : Option (List Int)} {i : Nat} {xs : List Int} {x : List UInt8} {n : Int} (h : (iQ (ws.drop i)).map (xs ++ ·) = M) (hx : ws[i]? = some x) (hl : ¬ x.length < 2) (hr : rdM (x.drop 1) = some n) : (iQ (ws.drop (i + 1))).map ((xs ++ [n]) ++ ·) = M := by
  rw [drop_cons' hx, iq_cons hl, hr] at h
  simp only at h
  rw [Option.map_map] at h
  rw [← h]
  congr 1
  funext y
  simp
theorem rps_end {ws : List (List UInt8)} {M : Option (List Int)} {xs : List Int} (h : RpS ws M ws.length xs) (hne : 1 ≤ ws.length) : M = some xs := by
  rcases h with ⟨h, _⟩ | ⟨_, h⟩
  · omega
  · rw [List.drop_length] at h
    rw [← h]
    show some (xs ++ []) = _
    rw [List.append_nil]
theorem rpi_end {ws : List (List UInt8)} {M : Option (List Int)} {xs : List Int} (h : RpI ws M ws.length xs) (hne : 1 ≤ ws.length) : M = some xs := by
  rcases h with ⟨h, _⟩ | ⟨_, h⟩
  · omega
  · rw [List.drop_length] at h
    rw [← h]
    show some (xs ++ []) = _
    rw [List.append_nil]
/-- A reading returned: the path, or none. -/
def RetRd (w : World) (R : Option (List Int)) (e : Ending) (w' : World) : Prop :=
  ∃ v, e = .returned (.tuple #[v, .bool R.isSome]) ∧ w'.ownsRow w.heap.size 2 1 v (R.getD []).length (ints (R.getD [])) ∧ Below w.heap.size w w'
theorem ret_none {w w' : World} {R : Option (List Int)} (h : R = none) (hb : Below w.heap.size w w') : RetRd w R (.returned (.tuple #[.slice none 0 0, .bool false])) w' := by
  subst h
  exact ⟨_, rfl, World.ownsRow_nil _ _ _ _, hb⟩
theorem ret_some {w w' : World} {R : Option (List Int)} {xs : List Int} {v : Value} (h : R = some xs) (ho : w'.ownsRow w.heap.size 2 1 v xs.length (ints xs)) (hb : Below w.heap.size w w') : RetRd w R (.returned (.tuple #[v, .bool true])) w' := by
  subst h
  exact ⟨_, rfl, ho, hb⟩
theorem rs_litP (w : World) (x : Int) : Rs (w.alloc (.cells #[.int .i64 x] 2)) 1 (.slice (some ⟨w.heap.size, 0, none⟩) 1 1) 1 (ints [x]) :=
  Rs.of_own (World.ownsRow_lit (base := 0) w #[.int .i64 x] 1 (Nat.zero_le _) (by simp [maxLen]) (by simp))
theorem own_slP {w : World} {base size n : Nat} {e : TypeId} {v : Value} {xs : List Value} (h : w.ownsRow base e size v n xs) : ∃ a c, v = .slice a n c := by
  rcases h.2 with ⟨rfl, rfl⟩ | ⟨g, cap, cur, rfl, _⟩
  · exact ⟨none, 0, rfl⟩
  · exact ⟨_, _, rfl⟩
theorem at_ne {w : World} {v v' : Value} {g : Nat} (hg : g < w.heap.size) (hne : some g ≠ v.ownBlock) (hat : v'.ownBlock = v.ownBlock ∨ v'.ownBlock = some w.heap.size) : some g ≠ v'.ownBlock := by
  rcases hat with e | e <;> rw [e]
  · exact hne
  · intro h; injection h with h; omega
end Go.Proofs.YtlmmpeeacjbobaaGreatDoor
namespace Go.Proofs.YtlmmpeeacjbobaaGreatDoor
open Go.RowKit

def RpR (w : World) (ws : List ByteArray) (M : Option (List Int)) (g o : Nat) (k : Nat) (v vi : Value) (wr : World) : Prop :=
  ∃ (i : Nat) (xs : List Int), i ≤ ws.length ∧ ws.length ≤ i + k ∧ vi = .int .i64 i ∧ RpS (ws.map (·.data.toList)) M i xs ∧ xs.length ≤ i + 1 ∧
    wr.ownsRow w.heap.size 2 1 v xs.length (ints xs) ∧ WrdAt wr g o ws ∧ some g ≠ v.ownBlock ∧ Below w.heap.size w wr
theorem get_map {ws : List ByteArray} {i : Nat} {x : ByteArray} (h : ws[i]? = some x) : (ws.map (·.data.toList))[i]? = some x.data.toList := by simp [h]
theorem ext1_list {x : ByteArray} : (x.extract 1 x.size).data.toList = x.data.toList.drop 1 := Lib.extract_to_end x 1
theorem ltC_even {t : Nat} (h : t % 2 = 0) : ltC t = 82 := by unfold ltC; rw [if_pos h]
theorem ltC_odd {t : Nat} (h : ¬ t % 2 = 0) : ltC t = 76 := by unfold ltC; rw [if_neg h]
theorem byte_ne {a b : UInt8} (h : ¬ a = b) : ((a.toNat : Int) == (b.toNat : Int)) = false := by
  rw [beq_eq_false_iff_ne]
  intro e
  exact h (UInt8.toNat_inj.1 (by omega))
theorem byte_nb {a b : UInt8} (h : ¬ a = b) : ((a.toNat : Int) != (b.toNat : Int)) = true := by
  unfold bne
  rw [byte_ne h]
  rfl
set_option maxHeartbeats 16000000 in
set_option maxRecDepth 100000 in
theorem readPathS_any (s : ByteArray) (hs : s.size ≤ 1048576) (w : World) : Calls Tryz.prog 9 #[.string s] w (RetRd w (rpS s.data.toList)) := by
  obtain ⟨R, hR⟩ : ∃ R, rpS s.data.toList = R := ⟨_, rfl⟩
  rw [hR]
  by_cases ht : s = ⟨#[116, 111, 112]⟩
  · have hRn : R = some [] := by
      rw [← hR, ht]; rfl
    have heq : (s.toList == [116, 111, 112]) = true := by rw [ByteArray.toList_eq, ht]; rfl
    clear ht hR
    go_enter Tryz.func9, Tryz.ntmps9
    go_wp2
    go_ret2
    exact ret_some hRn (World.ownsRow_lit w #[] 0 (Nat.le_refl _) (by simp [maxLen]) (by simp)) (by repeat' (first | (with_reducible exact Below.refl _ _) | (with_reducible assumption) | (with_reducible refine Below.alloc ?_ ?_ _) | (with_reducible refine Below.drew ?_) | (with_reducible refine bdrewN ?_ _) | (with_reducible refine Below.setCell ?_ ?_ _) | (with_reducible refine bthen ?_ (by assumption) ?_) | go_size))
  · have hlt : s.data.toList ≠ topL := fun e => ht (ba_of_list (b := ⟨#[116, 111, 112]⟩) e)
    have heq : (s.toList == [116, 111, 112]) = false := by
      rw [beq_eq_false_iff_ne, ByteArray.toList_eq]; exact hlt
    have hRM : R = match sW (spL 32 s.data.toList) with | some rs => if okR rs then some rs else none | none => none := by
      rw [← hR]; unfold rpS; rw [if_neg hlt]; rfl
    obtain ⟨M, hM⟩ : ∃ M, sW (spL 32 s.data.toList) = M := ⟨_, rfl⟩
    rw [hM] at hRM
    have HR := Lib.hid hRM
    have hl := spB_list 32 s
    obtain ⟨z1, z2⟩ := spB_sizes 32 s
    have hn1 : 1 ≤ (spB 32 s).length := by
      rw [spB_len, sp_len]; omega
    have kS : ∀ w, Calls Tryz.prog 29 #[.string s, .int .u8 32] w (RetRow w 9 1 (spB 32 s).length (strs (spB 32 s))) := fun w => l01Split_any s (by omega) 32 w
    generalize spB 32 s = ws at *
    rw [← hl] at hM
    have hst : RpS (ws.map (·.data.toList)) M 0 [] := .inl ⟨rfl, rfl, hM⟩
    have HST := Lib.hid hst
    have Z2 := Lib.hid z2
    clear ht hR hlt hRM hM hl hst z2
    have o0 : (w.alloc (.cells #[] 2)).ownsRow w.heap.size 2 1 (.slice (some ⟨w.heap.size, 0, none⟩) 0 0) 0 [] := World.ownsRow_lit w #[] 0 (Nat.le_refl _) (by simp [maxLen]) (by simp)
    have b0 : Below w.heap.size w (w.alloc (.cells #[] 2)) := (Below.refl _ _).alloc (Nat.le_refl _) _
    go_enter Tryz.func9, Tryz.ntmps9
    go_wp2_with fail
    apply Calls.mono
    · with_reducible exact kS _
    rintro _ w1 ⟨vW, rfl, hoW, hb1⟩
    obtain ⟨g, o, c, rfl, hW1, hg1, hn, hnc, hcm⟩ := WrdAt.of_own hoW hn1
    rw [World.size_alloc] at hg1
    have o1 := own_below o0 hb1 (Nat.le_refl _)
    have b1 := bthen b0 hb1 b0.size
    have hc' : (c : Int) ≤ 9223372036854775807 := by omega
    clear hoW o0 b0 hb1 kS heq hn
    go_wp2_with fail
    go_loopg [4, 6] ws.length (RpR w ws M g o)
    case atStart => exact ⟨0, [], by omega, by omega, rfl, HST.out, by simp, o1, hW1, by simp [Value.ownBlock]; omega, b1⟩
    case round =>
      obtain ⟨i, xs, hi1, hi2, rfl, hst, hxl, hown, hW, hgo, hbw⟩ := hrel
      have hsz := hbw.size
      obtain ⟨va, vc, rfl⟩ := own_slP hown
      by_cases hlt : i < ws.length
      · obtain ⟨x, hx⟩ := get_ex (l := ws) (k := i) hlt
        have hxs := Z2.out x (List.mem_of_getElem? hx)
        have c1 := hW.2 i x hx
        have hgl := hW.1
        have hm := get_map hx
        by_cases h2 : x.size < 2
        · have h2' : (x.size : Int) < 2 := by omega
          have hMn := rps_short hst hm (by rw [← size_list]; exact h2)
          have hRn : R = none := by rw [HR.out, hMn]
          clear hst hm hMn
          go_wp2
          go_ret2
          exact ret_none hRn hbw
        · have h2' : ¬ (x.size : Int) < 2 := by omega
          have h2l : ¬ x.data.toList.length < 2 := by rw [← size_list]; exact h2
          have h1x : 1 ≤ x.size := by omega
          have hx0 : 0 < x.size := by omega
          have hhd := head_list hx0
          have readN : ∀ w, Calls Tryz.prog 30 #[.string (x.extract 1 x.size)] w (Ret w (rdV (x.data.toList.drop 1))) := fun w => by
            have := l01Number_any (x.extract 1 x.size) (by rw [size_list, ext1_list, List.length_drop, ← size_list]; omega) w
            rw [ext1_list] at this
            exact this
          by_cases hi0 : i = 0
          · subst hi0
            obtain rfl := rps_zero hst
            have c0 : wr.cell? ⟨g, o, none⟩ = some (.string x) := by simpa using c1
            have hwr1 : IntKind.i64.wrap 1 = 1 := by decide
            have hown : wr.ownsRow w.heap.size 2 1 (.slice va 0 vc) 0 (ints []) := hown
            by_cases hL : x[0] = 76
            · obtain ⟨_, hS2⟩ := rps_L hst hm (by rw [hhd, hL])
              have hS := rs_litP wr 0
              have hsA : w.heap.size ≤ (wr.alloc (.cells #[.int .i64 0] 2)).heap.size := by rw [World.size_alloc]; omega
              clear hst
              go_upto_region 12 with (at_builtin; refine wp_appI rfl (.tmp 38) (.tmp 39) rfl w.heap.size _ _ 0 1 ([] : List Int) [0] rfl (hown.alloc _) rfl hS (by omega) hsA ?_; intro v5 w5 hown5 hgr5 hat5)
              have WA := (hW.alloc (.cells #[.int .i64 0] 2)).grown hgr5 hgo
              have hgo5 := at_ne (by have := hW.1; rw [World.size_alloc]; omega) hgo hat5
              have bw5 := (hbw.alloc hsz _).grown hgr5 hsA (fun k hk => (hown.lt k hk).1)
              have c5 : w5.cell? ⟨g, o, none⟩ = some (.string x) := by simpa using WA.2 0 x hx
              have hgl5 := WA.1
              have hs5 := bw5.size
              have hown5 : w5.ownsRow w.heap.size 2 1 v5 1 (ints [0]) := hown5
              obtain ⟨L1, hL1⟩ : ∃ L1 : Nat, L1 = 1 := ⟨1, rfl⟩
              have hown5 : w5.ownsRow w.heap.size 2 1 v5 L1 (ints [0]) := by rw [hL1]; exact hown5
              have HL1 := Lib.hid hL1
              have hLb : L1 ≤ 1 := by omega
              have hpi : ((L1 : Int).tmod 2) = 1 := by rw [hL1]; rfl
              obtain ⟨va5, vc5, rfl⟩ := own_slP hown5
              clear hL1
              clear hown hW hgo hbw c1 c0 hgr5 hat5 hS hsA
              have hrd := readN
              cases hr : rdM (x.data.toList.drop 1) with
              | none =>
                have hMn := sq_none hS2 hm h2l hr
                have hRn : R = none := by rw [HR.out, hMn]
                have kN := fun w => hrd w
                rw [rdV_none hr] at kN
                clear hS2 hm hMn hrd
                go_wp2_with fail
                apply Calls.mono
                · with_reducible exact kN _
                rintro _ wn ⟨rfl, hbn⟩
                have hbx := bthen bw5 hbn bw5.size
                have Wn := (WA).below hbn
                have cn := Wn.2 0 x hx
                have cn0 := (by simpa using cn : wn.cell? ⟨g, o, none⟩ = some (.string x))
                go_wp2
                go_ret2
                exact ret_none hRn hbx
              | some n =>
                have kN := fun w => hrd w
                rw [rdV_some hr] at kN
                clear hrd
                by_cases hn0 : n = 0
                · have hMn := sq_bad hS2 hm h2l hr (.inl hn0)
                  have hRn : R = none := by rw [HR.out, hMn]
                  clear hS2 hm hMn hr
                  go_wp2_with fail
                  apply Calls.mono
                  · with_reducible exact kN _
                  rintro _ wn ⟨rfl, hbn⟩
                  have hbx := bthen bw5 hbn bw5.size
                  have Wn := (WA).below hbn
                  have cn := Wn.2 0 x hx
                  have cn0 := (by simpa using cn : wn.cell? ⟨g, o, none⟩ = some (.string x))
                  go_wp2
                  go_ret2
                  exact ret_none hRn hbx
                · have hn0' : (n == 0) = false := by simpa using hn0
                  by_cases hsg : x[0] = ltC 1
                  · have hS3 := sq_step hS2 hm h2l hr hn0 (by rw [hhd, hsg])
                    have H3 := Lib.hid hS3
                    clear hS2 hm hr hS3
                    rw [ltC_odd (by decide)] at hsg
                    go_wp2_with fail
                    apply Calls.mono
                    · with_reducible exact kN _
                    rintro _ wn ⟨rfl, hbn⟩
                    have hbx := bthen bw5 hbn bw5.size
                    have ownn := own_below hown5 hbn (Nat.le_refl _)
                    have Wn := (WA).below hbn
                    have cn := Wn.2 0 x hx
                    have cn0 := (by simpa using cn : wn.cell? ⟨g, o, none⟩ = some (.string x))
                    have hS := rs_litP wn n
                    have hsA : w.heap.size ≤ (wn.alloc (.cells #[.int .i64 n] 2)).heap.size := by rw [World.size_alloc]; have := hbx.size; omega
                    go_wp2_with (at_builtin; refine wp_appI rfl (.tmp 69) (.tmp 71) rfl w.heap.size _ _ L1 1 [(0 : Int)] [n] rfl (ownn.alloc _) rfl hS (by omega) hsA ?_; intro v9 w9 hown9 hgr9 hat9)
                    go_roundg (gk - 1)
                    case measure => omega
                    case rel =>
                      refine ⟨0 + 1, [(0 : Int)] ++ [n], by omega, by omega, by go_num, .inr ⟨by omega, by rw [List.length_append, List.length_singleton]; exact H3.out⟩, by first | (simp; done) | (simp; omega), by have h9 := hown9; rw [HL1.out] at h9; exact h9, (Wn.alloc _).grown hgr9 hgo5, at_ne (by have := Wn.1; rw [World.size_alloc]; omega) hgo5 hat9, (hbx.alloc hbx.size _).grown hgr9 hsA (fun k hk => (ownn.lt k hk).1)⟩
                  · exact (hsg (hL.trans (ltC_odd (t := 1) (by decide)).symm)).elim
            · have hS2 : (sQ 0 ((ws.map (·.data.toList)).drop 0)).map (([] : List Int) ++ ·) = M := rps_go hst hm (fun _ => by rw [hhd]; intro h; injection h with h; exact hL h)
              have hnl : ((x[0].toNat : Int) == 76) = false := byte_ne hL
              clear hst
              have hrd := readN
              cases hr : rdM (x.data.toList.drop 1) with
              | none =>
                have hMn := sq_none hS2 hm h2l hr
                have hRn : R = none := by rw [HR.out, hMn]
                have kN := fun w => hrd w
                rw [rdV_none hr] at kN
                clear hS2 hm hMn hrd
                go_wp2_with fail
                apply Calls.mono
                · with_reducible exact kN _
                rintro _ wn ⟨rfl, hbn⟩
                have hbx := bthen hbw hbn hbw.size
                have Wn := (hW).below hbn
                have cn := Wn.2 0 x hx
                have cn0 := (by simpa using cn : wn.cell? ⟨g, o, none⟩ = some (.string x))
                go_wp2
                go_ret2
                exact ret_none hRn hbx
              | some n =>
                have kN := fun w => hrd w
                rw [rdV_some hr] at kN
                clear hrd
                by_cases hn0 : n = 0
                · have hMn := sq_bad hS2 hm h2l hr (.inl hn0)
                  have hRn : R = none := by rw [HR.out, hMn]
                  clear hS2 hm hMn hr
                  go_wp2_with fail
                  apply Calls.mono
                  · with_reducible exact kN _
                  rintro _ wn ⟨rfl, hbn⟩
                  have hbx := bthen hbw hbn hbw.size
                  have Wn := (hW).below hbn
                  have cn := Wn.2 0 x hx
                  have cn0 := (by simpa using cn : wn.cell? ⟨g, o, none⟩ = some (.string x))
                  go_wp2
                  go_ret2
                  exact ret_none hRn hbx
                · have hn0' : (n == 0) = false := by simpa using hn0
                  by_cases hsg : x[0] = ltC 0
                  · have hS3 := sq_step hS2 hm h2l hr hn0 (by rw [hhd, hsg])
                    have H3 := Lib.hid hS3
                    clear hS2 hm hr hS3
                    rw [ltC_even (by decide)] at hsg
                    go_wp2_with fail
                    apply Calls.mono
                    · with_reducible exact kN _
                    rintro _ wn ⟨rfl, hbn⟩
                    have hbx := bthen hbw hbn hbw.size
                    have ownn := own_below hown hbn (Nat.le_refl _)
                    have Wn := (hW).below hbn
                    have cn := Wn.2 0 x hx
                    have cn0 := (by simpa using cn : wn.cell? ⟨g, o, none⟩ = some (.string x))
                    have hS := rs_litP wn n
                    have hsA : w.heap.size ≤ (wn.alloc (.cells #[.int .i64 n] 2)).heap.size := by rw [World.size_alloc]; have := hbx.size; omega
                    go_wp2_with (at_builtin; refine wp_appI rfl (.tmp 69) (.tmp 71) rfl w.heap.size _ _ 0 1 ([] : List Int) [n] rfl (ownn.alloc _) rfl hS (by omega) hsA ?_; intro v9 w9 hown9 hgr9 hat9)
                    go_roundg (gk - 1)
                    case measure => omega
                    case rel =>
                      refine ⟨0 + 1, ([] : List Int) ++ [n], by omega, by omega, by go_num, .inr ⟨by omega, by rw [List.length_append, List.length_singleton]; exact H3.out⟩, by first | (simp; done) | (simp; omega), by exact hown9, (Wn.alloc _).grown hgr9 hgo, at_ne (by have := Wn.1; rw [World.size_alloc]; omega) hgo hat9, (hbx.alloc hbx.size _).grown hgr9 hsA (fun k hk => (ownn.lt k hk).1)⟩
                  · have hMn := sq_bad hS2 hm h2l hr (.inr (by rw [hhd]; intro e; injection e with e; exact hsg e))
                    have hRn : R = none := by rw [HR.out, hMn]
                    clear hS2 hm hMn hr
                    rw [ltC_even (by decide)] at hsg
                    have hsb : ((x[0].toNat : Int) != 82) = true := byte_nb hsg
                    go_wp2_with fail
                    apply Calls.mono
                    · with_reducible exact kN _
                    rintro _ wn ⟨rfl, hbn⟩
                    have hbx := bthen hbw hbn hbw.size
                    have Wn := (hW).below hbn
                    have cn := Wn.2 0 x hx
                    have cn0 := (by simpa using cn : wn.cell? ⟨g, o, none⟩ = some (.string x))
                    go_wp2
                    go_ret2
                    exact ret_none hRn hbx
          · have hS2 := rps_go hst hm (fun e => absurd e hi0)
            have hnl : ((i : Int) == 0) = false := by simp; omega
            clear hst
            have hrd := readN
            cases hr : rdM (x.data.toList.drop 1) with
            | none =>
              have hMn := sq_none hS2 hm h2l hr
              have hRn : R = none := by rw [HR.out, hMn]
              have kN := fun w => hrd w
              rw [rdV_none hr] at kN
              clear hS2 hm hMn hrd
              by_cases hpar : xs.length % 2 = 0
              · have hpi : ((xs.length : Int).tmod 2) = 0 := by rw [Int.tmod_eq_emod_of_nonneg (by omega)]; omega
                go_wp2_with fail
                apply Calls.mono
                · with_reducible exact kN _
                rintro _ wn ⟨rfl, hbn⟩
                have hbx := bthen hbw hbn hbw.size
                have Wn := (hW).below hbn
                have cn := Wn.2 i x hx
                have cn0 := cn
                go_wp2
                go_ret2
                exact ret_none hRn hbx
              · have hpi : ((xs.length : Int).tmod 2) = 1 := by rw [Int.tmod_eq_emod_of_nonneg (by omega)]; omega
                go_wp2_with fail
                apply Calls.mono
                · with_reducible exact kN _
                rintro _ wn ⟨rfl, hbn⟩
                have hbx := bthen hbw hbn hbw.size
                have Wn := (hW).below hbn
                have cn := Wn.2 i x hx
                have cn0 := cn
                go_wp2
                go_ret2
                exact ret_none hRn hbx
            | some n =>
              have kN := fun w => hrd w
              rw [rdV_some hr] at kN
              clear hrd
              by_cases hn0 : n = 0
              · have hMn := sq_bad hS2 hm h2l hr (.inl hn0)
                have hRn : R = none := by rw [HR.out, hMn]
                clear hS2 hm hMn hr
                by_cases hpar : xs.length % 2 = 0
                · have hpi : ((xs.length : Int).tmod 2) = 0 := by rw [Int.tmod_eq_emod_of_nonneg (by omega)]; omega
                  go_wp2_with fail
                  apply Calls.mono
                  · with_reducible exact kN _
                  rintro _ wn ⟨rfl, hbn⟩
                  have hbx := bthen hbw hbn hbw.size
                  have Wn := (hW).below hbn
                  have cn := Wn.2 i x hx
                  have cn0 := cn
                  go_wp2
                  go_ret2
                  exact ret_none hRn hbx
                · have hpi : ((xs.length : Int).tmod 2) = 1 := by rw [Int.tmod_eq_emod_of_nonneg (by omega)]; omega
                  go_wp2_with fail
                  apply Calls.mono
                  · with_reducible exact kN _
                  rintro _ wn ⟨rfl, hbn⟩
                  have hbx := bthen hbw hbn hbw.size
                  have Wn := (hW).below hbn
                  have cn := Wn.2 i x hx
                  have cn0 := cn
                  go_wp2
                  go_ret2
                  exact ret_none hRn hbx
              · have hn0' : (n == 0) = false := by simpa using hn0
                by_cases hsg : x[0] = ltC xs.length
                · have hS3 := sq_step hS2 hm h2l hr hn0 (by rw [hhd, hsg])
                  have H3 := Lib.hid hS3
                  clear hS2 hm hr hS3
                  by_cases hpar : xs.length % 2 = 0
                  · have hpi : ((xs.length : Int).tmod 2) = 0 := by rw [Int.tmod_eq_emod_of_nonneg (by omega)]; omega
                    rw [ltC_even hpar] at hsg
                    go_wp2_with fail
                    apply Calls.mono
                    · with_reducible exact kN _
                    rintro _ wn ⟨rfl, hbn⟩
                    have hbx := bthen hbw hbn hbw.size
                    have ownn := own_below hown hbn (Nat.le_refl _)
                    have Wn := (hW).below hbn
                    have cn := Wn.2 i x hx
                    have cn0 := cn
                    have hS := rs_litP wn n
                    have hsA : w.heap.size ≤ (wn.alloc (.cells #[.int .i64 n] 2)).heap.size := by rw [World.size_alloc]; have := hbx.size; omega
                    go_wp2_with (at_builtin; refine wp_appI rfl (.tmp 69) (.tmp 71) rfl w.heap.size _ _ xs.length 1 xs [n] rfl (ownn.alloc _) rfl hS (by omega) hsA ?_; intro v9 w9 hown9 hgr9 hat9)
                    go_roundg (gk - 1)
                    case measure => omega
                    case rel =>
                      refine ⟨i + 1, xs ++ [n], by omega, by omega, by go_num, .inr ⟨by omega, by rw [List.length_append, List.length_singleton]; exact H3.out⟩, by first | (simp; done) | (simp; omega), by rw [List.length_append, List.length_singleton]; exact hown9, (Wn.alloc _).grown hgr9 hgo, at_ne (by have := Wn.1; rw [World.size_alloc]; omega) hgo hat9, (hbx.alloc hbx.size _).grown hgr9 hsA (fun k hk => (ownn.lt k hk).1)⟩
                  · have hpi : ((xs.length : Int).tmod 2) = 1 := by rw [Int.tmod_eq_emod_of_nonneg (by omega)]; omega
                    rw [ltC_odd hpar] at hsg
                    go_wp2_with fail
                    apply Calls.mono
                    · with_reducible exact kN _
                    rintro _ wn ⟨rfl, hbn⟩
                    have hbx := bthen hbw hbn hbw.size
                    have ownn := own_below hown hbn (Nat.le_refl _)
                    have Wn := (hW).below hbn
                    have cn := Wn.2 i x hx
                    have cn0 := cn
                    have hS := rs_litP wn n
                    have hsA : w.heap.size ≤ (wn.alloc (.cells #[.int .i64 n] 2)).heap.size := by rw [World.size_alloc]; have := hbx.size; omega
                    go_wp2_with (at_builtin; refine wp_appI rfl (.tmp 69) (.tmp 71) rfl w.heap.size _ _ xs.length 1 xs [n] rfl (ownn.alloc _) rfl hS (by omega) hsA ?_; intro v9 w9 hown9 hgr9 hat9)
                    go_roundg (gk - 1)
                    case measure => omega
                    case rel =>
                      refine ⟨i + 1, xs ++ [n], by omega, by omega, by go_num, .inr ⟨by omega, by rw [List.length_append, List.length_singleton]; exact H3.out⟩, by first | (simp; done) | (simp; omega), by rw [List.length_append, List.length_singleton]; exact hown9, (Wn.alloc _).grown hgr9 hgo, at_ne (by have := Wn.1; rw [World.size_alloc]; omega) hgo hat9, (hbx.alloc hbx.size _).grown hgr9 hsA (fun k hk => (ownn.lt k hk).1)⟩
                · have hMn := sq_bad hS2 hm h2l hr (.inr (by rw [hhd]; intro e; injection e with e; exact hsg e))
                  have hRn : R = none := by rw [HR.out, hMn]
                  clear hS2 hm hMn hr
                  by_cases hpar : xs.length % 2 = 0
                  · have hpi : ((xs.length : Int).tmod 2) = 0 := by rw [Int.tmod_eq_emod_of_nonneg (by omega)]; omega
                    rw [ltC_even hpar] at hsg
                    have hsb : ((x[0].toNat : Int) != 82) = true := byte_nb hsg
                    go_wp2_with fail
                    apply Calls.mono
                    · with_reducible exact kN _
                    rintro _ wn ⟨rfl, hbn⟩
                    have hbx := bthen hbw hbn hbw.size
                    have Wn := (hW).below hbn
                    have cn := Wn.2 i x hx
                    have cn0 := cn
                    go_wp2
                    go_ret2
                    exact ret_none hRn hbx
                  · have hpi : ((xs.length : Int).tmod 2) = 1 := by rw [Int.tmod_eq_emod_of_nonneg (by omega)]; omega
                    rw [ltC_odd hpar] at hsg
                    have hsb : ((x[0].toNat : Int) != 76) = true := byte_nb hsg
                    go_wp2_with fail
                    apply Calls.mono
                    · with_reducible exact kN _
                    rintro _ wn ⟨rfl, hbn⟩
                    have hbx := bthen hbw hbn hbw.size
                    have Wn := (hW).below hbn
                    have cn := Wn.2 i x hx
                    have cn0 := cn
                    go_wp2
                    go_ret2
                    exact ret_none hRn hbx
      · obtain rfl : i = ws.length := by omega
        have hxl2 : xs.length ≤ 2097152 := by omega
        have hMs := rps_end (xs := xs) (by rw [List.length_map]; exact hst) (by rw [List.length_map]; exact hn1)
        have kO := fun r hr w' (hb : Below wr.heap.size wr w') => l05Ok_big (.slice va xs.length vc) xs.length xs w' ((Rd.of_own hown).below hb (Nat.le_refl _)) hxl2 r hr
        cases hk : okR xs
        · have hRn : R = none := by rw [HR.out, hMs]; simp only; rw [hk]; rfl
          have kO2 := kO false hk
          clear hst hMs kO hk
          go_wp2_with fail
          apply Calls.mono
          · with_reducible exact kO2 _ (Below.refl _ _)
          rintro _ wn ⟨rfl, hbn⟩
          have hbx := bthen hbw hbn hsz
          go_wp2
          go_ret2
          exact ret_none hRn hbx
        · have hRn : R = some xs := by rw [HR.out, hMs]; simp only; rw [hk]; rfl
          have kO2 := kO true hk
          clear hst hMs kO hk
          go_wp2_with fail
          apply Calls.mono
          · with_reducible exact kO2 _ (Below.refl _ _)
          rintro _ wn ⟨rfl, hbn⟩
          have hbx := bthen hbw hbn hsz
          have ownn := own_below hown hbn (Nat.le_refl _)
          go_wp2
          go_ret2
          exact ret_some hRn ownn hbx
end Go.Proofs.YtlmmpeeacjbobaaGreatDoor
namespace Go.Proofs.YtlmmpeeacjbobaaGreatDoor
open Go.RowKit

theorem splitC_any (s : ByteArray) (hs : s.size ≤ 2000000) (c : UInt8) (w : World) (hw : Rw w) : Calls Tryz.prog 23 #[.string s, .string ⟨#[c]⟩] w (RetRow w 9 1 (spB c s).length (strs (spB c s))) := by
  obtain ⟨_, ⟨m, hm⟩, _⟩ := hw
  refine (Tryz.strings_Split s ⟨#[c]⟩ m w (by omega) hm (by show 1 ≤ (#[c] : Array UInt8).size; simp)).mono ?_
  rintro _ w' ⟨rfl, rfl⟩
  have e : Lib.countB s ⟨#[c]⟩ + 1 = (spB c s).length := by
    rw [spB_len, sp_len]
    congr 1
    exact Lib.count_one c _
  rw [e, splitB_is]
  refine ⟨_, rfl, ?_, (Below.refl _ _).alloc (Nat.le_refl _) _⟩
  have z := (spB_sizes c s).1
  have h := World.ownsRow_lit (base := w.heap.size) (e := 9) (size := 1) w (strs (spB c s)).toArray (spB c s).length (Nat.le_refl _) (by simp [maxLen]; omega) (by simp [strs])
  simpa [strs] using h
def RpJ (w : World) (ws : List ByteArray) (M : Option (List Int)) (g o : Nat) (k : Nat) (v vi : Value) (wr : World) : Prop :=
  ∃ (i : Nat) (xs : List Int), i ≤ ws.length ∧ ws.length ≤ i + k ∧ vi = .int .i64 i ∧ RpI (ws.map (·.data.toList)) M i xs ∧ xs.length ≤ i + 1 ∧
    wr.ownsRow w.heap.size 2 1 v xs.length (ints xs) ∧ WrdAt wr g o ws ∧ some g ≠ v.ownBlock ∧ Below w.heap.size w wr
set_option maxHeartbeats 16000000 in
set_option maxRecDepth 100000 in
theorem readPathI_any (s : ByteArray) (hs : s.size ≤ 1048576) (w : World) (hw : Rw w) : Calls Tryz.prog 7 #[.string s] w (RetRd w (rpS s.data.toList)) := by
  rw [← rp_same]
  obtain ⟨R, hR⟩ : ∃ R, rpI s.data.toList = R := ⟨_, rfl⟩
  rw [hR]
  by_cases ht : s = ⟨#[116, 111, 112]⟩
  · have hRn : R = some [] := by
      rw [← hR, ht]; rfl
    have heq : (s.toList == [116, 111, 112]) = true := by rw [ByteArray.toList_eq, ht]; rfl
    clear ht hR
    go_enter Tryz.func7, Tryz.ntmps7
    go_wp2
    go_ret2
    exact ret_some hRn (World.ownsRow_nil _ _ _ _) (by repeat' (first | (with_reducible exact Below.refl _ _) | (with_reducible assumption) | (with_reducible refine Below.alloc ?_ ?_ _) | (with_reducible refine Below.drew ?_) | (with_reducible refine bdrewN ?_ _) | (with_reducible refine Below.setCell ?_ ?_ _) | (with_reducible refine bthen ?_ (by assumption) ?_) | go_size))
  · have hlt : s.data.toList ≠ topL := fun e => ht (ba_of_list (b := ⟨#[116, 111, 112]⟩) e)
    have heq : (s.toList == [116, 111, 112]) = false := by
      rw [beq_eq_false_iff_ne, ByteArray.toList_eq]; exact hlt
    have hRM : R = match iW (spL 32 s.data.toList) with | some rs => if (ptO rs).data.toList = s.data.toList then some rs else none | none => none := by
      rw [← hR]; unfold rpI; rw [if_neg hlt]; rfl
    obtain ⟨M, hM⟩ : ∃ M, iW (spL 32 s.data.toList) = M := ⟨_, rfl⟩
    rw [hM] at hRM
    have HR := Lib.hid hRM
    have hl := spB_list 32 s
    obtain ⟨z1, z2⟩ := spB_sizes 32 s
    have hn1 : 1 ≤ (spB 32 s).length := by
      rw [spB_len, sp_len]; omega
    have kS := splitC_any s (by omega) 32 w hw
    generalize spB 32 s = ws at *
    rw [← hl] at hM
    have hst : RpI (ws.map (·.data.toList)) M 0 [] := .inl ⟨rfl, rfl, hM⟩
    have HST := Lib.hid hst
    have Z2 := Lib.hid z2
    clear ht hR hlt hRM hM hl hst z2
    go_enter Tryz.func7, Tryz.ntmps7
    go_wp2_with fail
    apply Calls.mono
    · with_reducible exact kS
    rintro _ w1 ⟨vW, rfl, hoW, b1⟩
    obtain ⟨g, o, c, rfl, hW1, hg1, hn, hnc, hcm⟩ := WrdAt.of_own hoW hn1
    have hc' : (c : Int) ≤ 9223372036854775807 := by omega
    clear hoW kS heq hn
    go_wp2_with fail
    go_loopg [4, 14] ws.length (RpJ w ws M g o)
    case atStart => exact ⟨0, [], by omega, by omega, rfl, HST.out, by simp, World.ownsRow_nil _ _ _ _, hW1, by simp [Value.ownBlock], b1⟩
    case round =>
      obtain ⟨i, xs, hi1, hi2, rfl, hst, hxl, hown, hW, hgo, hbw⟩ := hrel
      have hsz := hbw.size
      obtain ⟨va, vc, rfl⟩ := own_slP hown
      have hwr := hw.below hbw
      by_cases hlt : i < ws.length
      · obtain ⟨x, hx⟩ := get_ex (l := ws) (k := i) hlt
        have hxs := Z2.out x (List.mem_of_getElem? hx)
        have c1 := hW.2 i x hx
        have hgl := hW.1
        have hm := get_map hx
        by_cases h2 : x.size < 2
        · have h2' : (x.size : Int) < 2 := by omega
          have hMn := rpi_short hst hm (by rw [← size_list]; exact h2)
          have hRn : R = none := by rw [HR.out, hMn]
          clear hst hm hMn
          go_wp2
          go_ret2
          exact ret_none hRn hbw
        · have h2' : ¬ (x.size : Int) < 2 := by omega
          have h2l : ¬ x.data.toList.length < 2 := by rw [← size_list]; exact h2
          have h1x : 1 ≤ x.size := by omega
          have hx0 : 0 < x.size := by omega
          have hhd := head_list hx0
          have readN : ∀ w, Rw w → Calls Tryz.prog 24 #[.string (x.extract 1 x.size)] w (Ret w (rdV (x.data.toList.drop 1))) := fun w hw => by
            have := readDecimal_any (x.extract 1 x.size) (by rw [size_list, ext1_list, List.length_drop, ← size_list]; omega) w hw
            rw [ext1_list] at this
            exact this
          by_cases hi0 : i = 0
          · subst hi0
            obtain rfl := rpi_zero hst
            have c0 : wr.cell? ⟨g, o, none⟩ = some (.string x) := by simpa using c1
            have hwr1 : IntKind.i64.wrap 1 = 1 := by decide
            have hown : wr.ownsRow w.heap.size 2 1 (.slice va 0 vc) 0 (ints []) := hown
            by_cases hL : x[0] = 76
            · obtain ⟨_, hS2⟩ := rpi_L hst hm (by rw [hhd, hL])
              have hS := rs_litP wr 0
              have hsA : w.heap.size ≤ (wr.alloc (.cells #[.int .i64 0] 2)).heap.size := by rw [World.size_alloc]; omega
              clear hst
              go_upto_region 11 with (at_builtin; refine wp_appI rfl (.tmp 29) (.tmp 30) rfl w.heap.size _ _ 0 1 ([] : List Int) [0] rfl (hown.alloc _) rfl hS (by omega) hsA ?_; intro v5 w5 hown5 hgr5 hat5)
              have WA := (hW.alloc (.cells #[.int .i64 0] 2)).grown hgr5 hgo
              have hgo5 := at_ne (by have := hW.1; rw [World.size_alloc]; omega) hgo hat5
              have bw5 := (hbw.alloc hsz _).grown hgr5 hsA (fun k hk => (hown.lt k hk).1)
              have hgl5 := WA.1
              have hs5 := bw5.size
              have hown5 : w5.ownsRow w.heap.size 2 1 v5 1 (ints [0]) := hown5
              obtain ⟨L1, hL1⟩ : ∃ L1 : Nat, L1 = 1 := ⟨1, rfl⟩
              have hown5 : w5.ownsRow w.heap.size 2 1 v5 L1 (ints [0]) := by rw [hL1]; exact hown5
              have HL1 := Lib.hid hL1
              have hLb : L1 ≤ 1 := by omega
              obtain ⟨va5, vc5, rfl⟩ := own_slP hown5
              clear hL1 hown hW hgo hbw c1 c0 hgr5 hat5 hS hsA
              have hrd := readN
              cases hr : rdM (x.data.toList.drop 1) with
              | none =>
                have hMn := iq_none hS2 hm h2l hr
                have hRn : R = none := by rw [HR.out, hMn]
                have kN := fun w h => hrd w h
                rw [rdV_none hr] at kN
                clear hS2 hm hMn hrd
                go_wp2_with fail
                apply Calls.mono
                · with_reducible exact kN _ (hw.below bw5)
                rintro _ wn ⟨rfl, hbn⟩
                have hbx := bthen bw5 hbn bw5.size
                go_wp2
                go_ret2
                exact ret_none hRn hbx
              | some n =>
                have kN := fun w h => hrd w h
                rw [rdV_some hr] at kN
                have hS3 := iq_step hS2 hm h2l hr
                have H3 := Lib.hid hS3
                clear hrd hS2 hm hr hS3
                go_wp2_with fail
                apply Calls.mono
                · with_reducible exact kN _ (hw.below bw5)
                rintro _ wn ⟨rfl, hbn⟩
                have hbx := bthen bw5 hbn bw5.size
                have ownn := own_below hown5 hbn (Nat.le_refl _)
                have Wn := (WA).below hbn
                have hS := rs_litP wn n
                have hsA : w.heap.size ≤ (wn.alloc (.cells #[.int .i64 n] 2)).heap.size := by rw [World.size_alloc]; have := hbx.size; omega
                go_wp2_with (at_builtin; refine wp_appI rfl (.tmp 40) (.tmp 42) rfl w.heap.size _ _ L1 1 [(0 : Int)] [n] rfl (ownn.alloc _) rfl hS (by omega) hsA ?_; intro v9 w9 hown9 hgr9 hat9)
                go_roundg (gk - 1)
                case measure => omega
                case rel =>
                  refine ⟨0 + 1, [(0 : Int)] ++ [n], by omega, by omega, by go_num, .inr ⟨by omega, H3.out⟩, by first | (simp; done) | (simp; omega), by have h9 := hown9; rw [HL1.out] at h9; exact h9, (Wn.alloc _).grown hgr9 hgo5, at_ne (by have := Wn.1; rw [World.size_alloc]; omega) hgo5 hat9, (hbx.alloc hbx.size _).grown hgr9 hsA (fun k hk => (ownn.lt k hk).1)⟩
            · have hS2 : (iQ ((ws.map (·.data.toList)).drop 0)).map (([] : List Int) ++ ·) = M := rpi_go hst hm (fun _ => by rw [hhd]; intro h; injection h with h; exact hL h)
              have hnl : ((x[0].toNat : Int) == 76) = false := byte_ne hL
              clear hst
              have hrd := readN
              cases hr : rdM (x.data.toList.drop 1) with
              | none =>
                have hMn := iq_none hS2 hm h2l hr
                have hRn : R = none := by rw [HR.out, hMn]
                have kN := fun w h => hrd w h
                rw [rdV_none hr] at kN
                clear hS2 hm hMn hrd
                go_wp2_with fail
                apply Calls.mono
                · with_reducible exact kN _ (hw.below hbw)
                rintro _ wn ⟨rfl, hbn⟩
                have hbx := bthen hbw hbn hbw.size
                go_wp2
                go_ret2
                exact ret_none hRn hbx
              | some n =>
                have kN := fun w h => hrd w h
                rw [rdV_some hr] at kN
                have hS3 := iq_step hS2 hm h2l hr
                have H3 := Lib.hid hS3
                clear hrd hS2 hm hr hS3
                go_wp2_with fail
                apply Calls.mono
                · with_reducible exact kN _ (hw.below hbw)
                rintro _ wn ⟨rfl, hbn⟩
                have hbx := bthen hbw hbn hbw.size
                have ownn := own_below hown hbn (Nat.le_refl _)
                have Wn := (hW).below hbn
                have hS := rs_litP wn n
                have hsA : w.heap.size ≤ (wn.alloc (.cells #[.int .i64 n] 2)).heap.size := by rw [World.size_alloc]; have := hbx.size; omega
                go_wp2_with (at_builtin; refine wp_appI rfl (.tmp 40) (.tmp 42) rfl w.heap.size _ _ 0 1 ([] : List Int) [n] rfl (ownn.alloc _) rfl hS (by omega) hsA ?_; intro v9 w9 hown9 hgr9 hat9)
                go_roundg (gk - 1)
                case measure => omega
                case rel =>
                  refine ⟨0 + 1, ([] : List Int) ++ [n], by omega, by omega, by go_num, .inr ⟨by omega, H3.out⟩, by first | (simp; done) | (simp; omega), by exact hown9, (Wn.alloc _).grown hgr9 hgo, at_ne (by have := Wn.1; rw [World.size_alloc]; omega) hgo hat9, (hbx.alloc hbx.size _).grown hgr9 hsA (fun k hk => (ownn.lt k hk).1)⟩
          · have hS2 := rpi_go hst hm (fun e => absurd e hi0)
            have hnl : ((i : Int) == 0) = false := by simp; omega
            clear hst
            have hrd := readN
            cases hr : rdM (x.data.toList.drop 1) with
            | none =>
              have hMn := iq_none hS2 hm h2l hr
              have hRn : R = none := by rw [HR.out, hMn]
              have kN := fun w h => hrd w h
              rw [rdV_none hr] at kN
              clear hS2 hm hMn hrd
              go_wp2_with fail
              apply Calls.mono
              · with_reducible exact kN _ (hw.below hbw)
              rintro _ wn ⟨rfl, hbn⟩
              have hbx := bthen hbw hbn hbw.size
              go_wp2
              go_ret2
              exact ret_none hRn hbx
            | some n =>
              have kN := fun w h => hrd w h
              rw [rdV_some hr] at kN
              have hS3 := iq_step hS2 hm h2l hr
              have H3 := Lib.hid hS3
              clear hrd hS2 hm hr hS3
              go_wp2_with fail
              apply Calls.mono
              · with_reducible exact kN _ (hw.below hbw)
              rintro _ wn ⟨rfl, hbn⟩
              have hbx := bthen hbw hbn hbw.size
              have ownn := own_below hown hbn (Nat.le_refl _)
              have Wn := (hW).below hbn
              have hS := rs_litP wn n
              have hsA : w.heap.size ≤ (wn.alloc (.cells #[.int .i64 n] 2)).heap.size := by rw [World.size_alloc]; have := hbx.size; omega
              go_wp2_with (at_builtin; refine wp_appI rfl (.tmp 40) (.tmp 42) rfl w.heap.size _ _ xs.length 1 xs [n] rfl (ownn.alloc _) rfl hS (by omega) hsA ?_; intro v9 w9 hown9 hgr9 hat9)
              go_roundg (gk - 1)
              case measure => omega
              case rel =>
                refine ⟨i + 1, xs ++ [n], by omega, by omega, by go_num, .inr ⟨by omega, H3.out⟩, by first | (simp; done) | (simp; omega), by rw [List.length_append, List.length_singleton]; exact hown9, (Wn.alloc _).grown hgr9 hgo, at_ne (by have := Wn.1; rw [World.size_alloc]; omega) hgo hat9, (hbx.alloc hbx.size _).grown hgr9 hsA (fun k hk => (ownn.lt k hk).1)⟩
      · obtain rfl : i = ws.length := by omega
        have hxl2 : xs.length ≤ 2097152 := by omega
        have hMs := rpi_end (xs := xs) (by rw [List.length_map]; exact hst) (by rw [List.length_map]; exact hn1)
        have kT := pathTextI_big (.slice va xs.length vc) xs.length xs wr hwr.tb (Rd.of_own hown) hxl2
        obtain ⟨D, hD⟩ : ∃ D, ptO xs = D := ⟨_, rfl⟩
        rw [hD] at kT
        by_cases hk : D = s
        · have hRn : R = some xs := by rw [HR.out, hMs]; simp only; rw [hD, hk, if_pos rfl]
          subst hk
          clear hst hMs hD
          go_wp2_with fail
          apply Calls.mono
          · with_reducible exact kT
          rintro _ wn ⟨rfl, hbn⟩
          have hbx := bthen hbw hbn hsz
          have ownn := own_below hown hbn (Nat.le_refl _)
          go_wp2
          go_ret2
          exact ret_some hRn ownn hbx
        · have hRn : R = none := by rw [HR.out, hMs]; simp only; rw [hD, if_neg (fun e => hk (ba_of_list e))]
          have hne := be_ne hk
          clear hst hMs hD hk
          go_wp2_with fail
          apply Calls.mono
          · with_reducible exact kT
          rintro _ wn ⟨rfl, hbn⟩
          have hbx := bthen hbw hbn hsz
          go_wp2
          go_ret2
          exact ret_none hRn hbx
end Go.Proofs.YtlmmpeeacjbobaaGreatDoor
namespace Go.Proofs.YtlmmpeeacjbobaaGreatDoor
open Go.RowKit

theorem run_neF (a b d e : Int) (r : Bool) (hr : (!(a == d && b == e)) = r) (w : World) : (binOp .neq 39 (.agg #[.int .i64 a, .int .i64 b]) (.agg #[.int .i64 d, .int .i64 e])).run Tryz.prog w = .ok (.bool r) w := by
  rw [run_neq_struct, run_equalIn_struct (P := Tryz.prog) w 9999 39 _ _ Tryz.fieldsF Tryz.heldF]
  obtain ⟨f1, f2, hl, n1, n2, t1, t2, o1, o2⟩ := fields2 Tryz.listF
  subst hr
  rw [hl, run_eqFields2 Tryz.underlying2 Tryz.plainI (by rw [n1]; decide) (by rw [n2]; decide) t1 t2 o1 o2 9998]
  rfl
def F6fR (w : World) (n : Nat) (k : Nat) (i : Value) (wr : World) : Prop :=
  ∃ j : Nat, j ≤ n ∧ n ≤ j + k ∧ i = .int .i64 j ∧ Below w.heap.size w wr
set_option maxHeartbeats 1000000 in
theorem f6fractions_same (v v' : Value) (n : Nat) (xs : List (Int × Int)) (w : World) (hv : Rd w 2 v n (prs xs)) (hv' : Rd w 2 v' n (prs xs)) :
    Calls Tryz.prog 15 #[v, v'] w (Ret w (.bool true)) := by
  obtain ⟨hl1, hm1⟩ := rd_len hv
  obtain ⟨A, c, rfl, hn1, hc1, _, hr1⟩ := hv
  obtain ⟨A', c', rfl, hn2, hc2, _, hr2⟩ := hv'
  rw [prs_len] at hl1
  have L1 := Lib.hid (show xs.length = n by omega)
  have R1 := Lib.hid hr1
  have R2 := Lib.hid hr2
  clear hl1 hr1 hr2
  go_enter Tryz.func15, Tryz.ntmps15
  go_wp2_with fail
  go_loopg [5] n (F6fR w n)
  case atStart => exact ⟨0, by omega, by omega, rfl, Below.refl _ _⟩
  case round =>
    obtain ⟨j, hj1, hj2, rfl, hbw⟩ := hrel
    have hs := hbw.size
    by_cases hjn : j < n
    · obtain ⟨⟨y1, y2⟩, hy⟩ := get_ex (l := xs) (k := j) (by have := L1.out; omega)
      obtain ⟨i1, i2⟩ := prs_get hy
      simp only at i1 i2
      rcases R1.out with h0 | ⟨g, o, rfl, hg, hcell⟩
      · omega
      rcases R2.out with h0 | ⟨g', o', rfl, hg', hcell'⟩
      · omega
      have c1 : wr.cell? ⟨g, o + j * 2, none⟩ = some (.int .i64 y1) := (hbw.cell (p := ⟨g, o + j * 2, none⟩) hg).trans (hcell (j * 2) _ i1)
      have c2 : wr.cell? ⟨g, o + j * 2 + 1, none⟩ = some (.int .i64 y2) := (hbw.cell (p := ⟨g, o + j * 2 + 1, none⟩) hg).trans (hcell (j * 2 + 1) _ i2)
      have c3 : wr.cell? ⟨g', o' + j * 2, none⟩ = some (.int .i64 y1) := (hbw.cell (p := ⟨g', o' + j * 2, none⟩) hg').trans (hcell' (j * 2) _ i1)
      have c4 : wr.cell? ⟨g', o' + j * 2 + 1, none⟩ = some (.int .i64 y2) := (hbw.cell (p := ⟨g', o' + j * 2 + 1, none⟩) hg').trans (hcell' (j * 2 + 1) _ i2)
      have hgw : g < wr.heap.size := by omega
      have hgw' : g' < wr.heap.size := by omega
      have hjn' : (j : Int) < (n : Int) := by omega
      have kNe := run_neF y1 y2 y1 y2 false (by simp)
      have kGd := run_guardF .neq
      clear hy i1 i2 hcell hcell' R1 R2
      go_wp2_with fail
      refine wp_region_calm (by kernel_rfl) (by kernel_rfl) ?_
      repeat (go_big_quiet_step ((fail)))
      refine wpQuiet_nil ?_
      intro w1 hb_w1
      obtain ⟨hc_w1, hf_w1, hs_w1⟩ := bcell hb_w1
      try simp at hs_w1
      have belz := bthen hbw hb_w1 hs
      go_wp2
      go_roundg (gk - 1)
      case measure => omega
      case rel => exact ⟨j + 1, by omega, by omega, by go_num, belz⟩
    · obtain rfl : j = n := by omega
      go_wp2
      go_ret
      refine ⟨by first | rfl | (simp), ?_⟩
      repeat' (first | (with_reducible exact Below.refl _ _) | (with_reducible assumption) | (with_reducible refine Below.alloc ?_ ?_ _) | (with_reducible refine Below.drew ?_) | (with_reducible refine bdrewN ?_ _) | (with_reducible refine Below.setCell ?_ ?_ _) | (with_reducible refine bthen ?_ (by assumption) ?_) | go_size)
end Go.Proofs.YtlmmpeeacjbobaaGreatDoor
namespace Go.Proofs.YtlmmpeeacjbobaaGreatDoor
open Go.RowKit

def F6iR (w : World) (n : Nat) (k : Nat) (i : Value) (wr : World) : Prop :=
  ∃ j : Nat, j ≤ n ∧ n ≤ j + k ∧ i = .int .i64 j ∧ Below w.heap.size w wr
set_option maxHeartbeats 1000000 in
theorem f6ints_same (v v' : Value) (n : Nat) (xs : List Int) (w : World) (hv : Rd w 1 v n (ints xs)) (hv' : Rd w 1 v' n (ints xs)) :
    Calls Tryz.prog 14 #[v, v'] w (Ret w (.bool true)) := by
  obtain ⟨hl1, hm1⟩ := rd_len hv
  obtain ⟨A, c, rfl, hn1, hc1, _, hr1⟩ := hv
  obtain ⟨A', c', rfl, hn2, hc2, _, hr2⟩ := hv'
  rw [ints_len, Nat.mul_one] at hl1
  have L1 := Lib.hid hl1
  have R1 := Lib.hid hr1
  have R2 := Lib.hid hr2
  clear hl1 hr1 hr2
  go_enter Tryz.func14, Tryz.ntmps14
  go_wp2_with fail
  go_loopg [5] n (F6iR w n)
  case atStart => exact ⟨0, by omega, by omega, rfl, Below.refl _ _⟩
  case round =>
    obtain ⟨j, hj1, hj2, rfl, hbw⟩ := hrel
    have hs := hbw.size
    by_cases hjn : j < n
    · obtain ⟨y, hy⟩ := get_ex (l := xs) (k := j) (by have := L1.out; omega)
      rcases R1.out with h0 | ⟨g, o, rfl, hg, hcell⟩
      · omega
      rcases R2.out with h0 | ⟨g', o', rfl, hg', hcell'⟩
      · omega
      have c1 : wr.cell? ⟨g, o + j, none⟩ = some (.int .i64 y) := (hbw.cell (p := ⟨g, o + j, none⟩) hg).trans (hcell j _ (ints_get hy))
      have c2 : wr.cell? ⟨g', o' + j, none⟩ = some (.int .i64 y) := (hbw.cell (p := ⟨g', o' + j, none⟩) hg').trans (hcell' j _ (ints_get hy))
      have hgw : g < wr.heap.size := by omega
      have hgw' : g' < wr.heap.size := by omega
      have hjn' : (j : Int) < (n : Int) := by omega
      clear hy hcell hcell' R1 R2
      go_wp2_with fail
      refine wp_region_calm (by kernel_rfl) (by kernel_rfl) ?_
      repeat (go_big_quiet_step ((fail)))
      refine wpQuiet_nil ?_
      intro w1 hb_w1
      obtain ⟨hc_w1, hf_w1, hs_w1⟩ := bcell hb_w1
      try simp at hs_w1
      have belz := bthen hbw hb_w1 hs
      go_wp2
      go_roundg (gk - 1)
      case measure => omega
      case rel => exact ⟨j + 1, by omega, by omega, by go_num, belz⟩
    · obtain rfl : j = n := by omega
      go_wp2
      go_ret
      refine ⟨by first | rfl | (simp), ?_⟩
      repeat' (first | (with_reducible exact Below.refl _ _) | (with_reducible assumption) | (with_reducible refine Below.alloc ?_ ?_ _) | (with_reducible refine Below.drew ?_) | (with_reducible refine bdrewN ?_ _) | (with_reducible refine Below.setCell ?_ ?_ _) | (with_reducible refine bthen ?_ (by assumption) ?_) | go_size)
end Go.Proofs.YtlmmpeeacjbobaaGreatDoor
namespace Go.Proofs.YtlmmpeeacjbobaaGreatDoor
open Go.RowKit

theorem mtx_last (i : List Int) (t : Int) : mtx (i ++ [t]) = ((t * (mtx i).1.1 + (mtx i).2.1, t * (mtx i).1.2 + (mtx i).2.2), (mtx i).1) := by
  rw [mtx_snoc]; rfl
theorem hd_nn {i : List Int} {l : Int} (h : Nrm i l) : 0 ≤ (mtx i).1.1 ∧ 0 ≤ (mtx i).1.2 ∧ 0 ≤ (mtx i).2.1 ∧ 0 ≤ (mtx i).2.2 := mtx_nn h.hd
/-- The value of a path's terms is the sum of its matrix' two fractions. -/
theorem path_sum {i : List Int} {l : Int} (h : Nrm i l) : (mtx (i ++ [l])).1 = ((mtx (pthL i l)).1.1 + (mtx (pthL i l)).2.1, (mtx (pthL i l)).1.2 + (mtx (pthL i l)).2.2) := by
  unfold pthL
  by_cases e : l = 1
  · subst e
    have hi : i = [] := by
      by_cases e : i = []
      · exact e
      · have := h.two e; omega
    subst hi
    rw [if_pos rfl]
    simp [mtx, mtS]
  · rw [if_neg e, mtx_last, mtx_last]
    simp only
    refine Prod.ext ?_ ?_ <;> simp only <;> grind
/-- The path of the parent, and what it says of the level. -/
theorem short_ok {i : List Int} {l : Int} (E : ExL i l) (hl : l ≠ 1) (h1 : (mtx (i ++ [l])).1.1 ≤ 1000000000) (h2 : (mtx (i ++ [l])).1.2 ≤ 1000000000) :
    okR (shtL i l) = true ∧ faB (shtL i l) = true ∧ (shtL i l).sum + 1 = (pthL i l).sum := by
  have hN := E.nrm
  have l2 : 2 ≤ l := by have := hN.pos; omega
  have ht := E.top
  obtain ⟨a1, a2, a3, a4⟩ := hd_nn hN
  have hs : (pthL i l).sum = i.sum + (l - 1) := by unfold pthL; rw [if_neg hl]; simp
  rw [hs]
  rw [mtx_last] at h1 h2
  simp only at h1 h2
  unfold shtL
  by_cases h3 : 2 < l
  · rw [if_pos h3]
    have hN' : Nrm i (l - 1) := ⟨E.nrm.hd, E.tl, fun _ => by omega, fun _ => by omega⟩
    refine ⟨okR_snoc.2 ⟨fun t ht => by have := E.hd t ht; omega, E.tl, by omega, E.len⟩, ?_, by simp; omega⟩
    obtain ⟨_, e2⟩ := fa_snoc i (l - 2)
    rw [e2, show l - 2 + 1 = l - 1 by omega]
    have m1 : (l - 1) * (mtx i).1.1 = l * (mtx i).1.1 - (mtx i).1.1 := by rw [Int.sub_mul, Int.one_mul]
    have m2 : (l - 1) * (mtx i).1.2 = l * (mtx i).1.2 - (mtx i).1.2 := by rw [Int.sub_mul, Int.one_mul]
    rw [ca_nrm hN' (by rw [mtx_last]; simp only; omega) (by rw [mtx_last]; simp only; omega)]
  · obtain rfl : l = 2 := by omega
    rw [if_neg h3]
    by_cases hi : i = [0]
    · subst hi
      rw [if_pos rfl]
      exact ⟨by decide, by decide, by decide⟩
    · rw [if_neg hi]
      by_cases e : i = []
      · subst e
        exact ⟨by decide, by decide, by decide⟩
      · obtain ⟨j, m, rfl⟩ := snoc_of e
        have hj : ∀ t ∈ j, 0 ≤ t ∧ t ≤ 500000000 := fun t ht => E.hd t (List.mem_append.2 (.inl ht))
        have hm := E.hd m (List.mem_append.2 (.inr (by simp)))
        have hj2 : ∀ t ∈ j.drop 1, 1 ≤ t := fun t ht => E.tl t (by
          cases j with
          | nil => simp at ht
          | cons y j => simp at ht ⊢; exact .inl ht)
        have hm2 : 1 ≤ m := by
          by_cases e : j = []
          · subst e
            have : m ≠ 0 := fun e => hi (by rw [e]; rfl)
            omega
          · obtain ⟨y, j', rfl⟩ := List.exists_cons_of_ne_nil e
            exact E.tl m (by simp)
        have hlen := E.len
        rw [List.length_append, List.length_singleton] at hlen
        refine ⟨okR_snoc.2 ⟨fun t ht => by have := hj t ht; omega, hj2, by omega, by omega⟩, ?_, by simp⟩
        have hN' : Nrm j (m + 1) := ⟨fun t ht => (hj t ht).1, hj2, fun _ => by omega, fun _ => by omega⟩
        obtain ⟨_, e2⟩ := fa_snoc j m
        rw [e2]
        obtain ⟨b1, b2, b3, b4⟩ := hd_nn hN'
        rw [mtx_last] at h1 h2 a1 a2
        simp only at h1 h2 a1 a2
        have m1 : (m + 1) * (mtx j).1.1 = m * (mtx j).1.1 + (mtx j).1.1 := by rw [Int.add_mul, Int.one_mul]
        have m2 : (m + 1) * (mtx j).1.2 = m * (mtx j).1.2 + (mtx j).1.2 := by rw [Int.add_mul, Int.one_mul]
        rw [ca_nrm hN' (by rw [mtx_last]; simp only; omega) (by rw [mtx_last]; simp only; omega)]
theorem last_or {i : List Int} {l : Int} {n d : Int} (h : posC n d = 0) (hL : exF 60 n d = i ++ [l]) : (mtx (i ++ [l])).1 = (n, d) ∧ n ≤ 1000000000 ∧ d ≤ 1000000000 := by
  obtain ⟨hok, ⟨n1, n2⟩, d1, d2⟩ := pos_facts h
  have := ex_value hok n1
  rw [hL] at this
  exact ⟨this, n2, d2⟩
/-- The level of a fraction is that of its parent and 1. -/
theorem parent_level {n d : Int} (h : (paM n d).2.2 = 0) : posC n d = 0 ∧ posC (paM n d).1 (paM n d).2.1 = 0 ∧ (ptP n d).sum = (ptP (paM n d).1 (paM n d).2.1).sum + 1 := by
  by_cases hp : posC n d = 0
  · obtain ⟨hok, ⟨n1, n2⟩, d1, d2⟩ := pos_facts hp
    obtain ⟨i, l, hL, E⟩ := ex_all n1 n2 d1 d2
    obtain ⟨v, v1, v2⟩ := last_or hp hL
    rw [pa_of hp hL] at h ⊢
    by_cases hl : l = 1
    · rw [if_pos hl] at h; simp at h
    · rw [if_neg hl]
      simp only
      obtain ⟨s1, s2, s3⟩ := short_ok E hl (by rw [v]; exact v1) (by rw [v]; exact v2)
      obtain ⟨f1, f2⟩ := fp_path s1 s2
      rw [pt_of hp hL, f2]
      exact ⟨hp, f1, by omega⟩
  · unfold paM at h; rw [if_neg hp] at h; exact absurd h hp
/-- The parent of a fraction whose terms are known. -/
theorem parent_of {i : List Int} {l : Int} (hN : Nrm i l) (h1 : (mtx (i ++ [l])).1.1 ≤ 1000000000) (h2 : (mtx (i ++ [l])).1.2 ≤ 1000000000) (hl : l ≠ 1) :
    posC (mtx (i ++ [l])).1.1 (mtx (i ++ [l])).1.2 = 0 ∧ paM (mtx (i ++ [l])).1.1 (mtx (i ++ [l])).1.2 = ((faM (shtL i l)).1, (faM (shtL i l)).2, 0) := by
  obtain ⟨p1, p2⟩ := nrm_path hN h1 h2
  exact ⟨p1, by rw [pa_of p1 p2, if_neg hl]⟩
/-- Both children have the fraction as their parent. -/
theorem child_parent {n d : Int} (h : posC n d = 0) : n = (mtx (ptP n d)).1.1 + (mtx (ptP n d)).2.1 ∧ d = (mtx (ptP n d)).1.2 + (mtx (ptP n d)).2.2 ∧
    (okF (n + (mtx (ptP n d)).1.1) (d + (mtx (ptP n d)).1.2) = true → paM (n + (mtx (ptP n d)).1.1) (d + (mtx (ptP n d)).1.2) = (n, d, 0)) ∧
    (okF (n + (mtx (ptP n d)).2.1) (d + (mtx (ptP n d)).2.2) = true → paM (n + (mtx (ptP n d)).2.1) (d + (mtx (ptP n d)).2.2) = (n, d, 0)) ∧
    Int.gcd (n + (mtx (ptP n d)).1.1) (d + (mtx (ptP n d)).1.2) = 1 ∧ Int.gcd (n + (mtx (ptP n d)).2.1) (d + (mtx (ptP n d)).2.2) = 1 ∧
    0 ≤ (mtx (ptP n d)).1.1 ∧ 0 ≤ (mtx (ptP n d)).1.2 ∧ 0 ≤ (mtx (ptP n d)).2.1 ∧ 0 ≤ (mtx (ptP n d)).2.2 := by
  obtain ⟨hok, ⟨n1, n2⟩, d1, d2⟩ := pos_facts h
  obtain ⟨i, l, hL, E⟩ := ex_all n1 n2 d1 d2
  obtain ⟨v, _, _⟩ := last_or h hL
  have hN := E.nrm
  have hsum := path_sum hN
  rw [v] at hsum
  rw [pt_of h hL]
  have hnn := mtx_nn (a := pthL i l) (by
    unfold pthL
    split
    · simp
    · intro t ht
      have := hN.pos
      rcases List.mem_append.1 ht with e | e
      · exact hN.hd t e
      · rw [List.mem_singleton] at e; omega)
  obtain ⟨e1, e2⟩ := Prod.mk.injEq .. ▸ hsum
  refine ⟨e1, e2, ?_⟩
  by_cases hl : l = 1
  · subst hl
    have hi : i = [] := by
      by_cases e : i = []
      · exact e
      · have := hN.two e; omega
    subst hi
    have : pthL [] 1 = [] := rfl
    rw [this] at e1 e2 ⊢
    have z : mtx [] = ((1, 0), (0, 1)) := rfl
    rw [z] at e1 e2 ⊢
    simp only at e1 e2 ⊢
    have : n = 1 := by omega
    have : d = 1 := by omega
    subst n d
    exact ⟨fun _ => by decide +kernel, fun _ => by decide +kernel, by decide, by decide, by omega, by omega, by omega, by omega⟩
  · have l2 : 2 ≤ l := by have := hN.pos; omega
    have ep : pthL i l = i ++ [l - 1] := by unfold pthL; rw [if_neg hl]
    rw [ep] at hnn ⊢
    rw [ep, mtx_last] at e1 e2
    simp only at e1 e2
    have hback : faM (i ++ [l - 1]) = (n, d) := by
      have := (path_back h).2.2
      rwa [pt_of h hL, ep] at this
    -- the child that turns
    have hA : Nrm (i ++ [l - 1]) 2 := by
      refine ⟨fun t ht => ?_, fun t ht => ?_, fun _ => by omega, fun _ => by omega⟩
      · rcases List.mem_append.1 ht with e | e
        · exact hN.hd t e
        · rw [List.mem_singleton] at e; omega
      · cases i with
        | nil => simp at ht
        | cons y i =>
          simp only [List.cons_append, List.drop_one, List.tail_cons] at ht
          rcases List.mem_append.1 ht with e | e
          · exact hN.tl t (by simpa using e)
          · rw [List.mem_singleton] at e; omega
    -- the child that goes on
    have hB : Nrm i (l + 1) := ⟨hN.hd, hN.tl, fun _ => by omega, fun _ => by omega⟩
    have vA : (mtx (i ++ [l - 1] ++ [2])).1 = (n + (mtx (i ++ [l - 1])).1.1, d + (mtx (i ++ [l - 1])).1.2) := by
      rw [mtx_last, mtx_last]
      simp only
      refine Prod.ext ?_ ?_ <;> simp only <;> omega
    have vB : (mtx (i ++ [l + 1])).1 = (n + (mtx (i ++ [l - 1])).2.1, d + (mtx (i ++ [l - 1])).2.2) := by
      rw [mtx_last, mtx_last]
      simp only
      have m1 : (l + 1) * (mtx i).1.1 = (l - 1) * (mtx i).1.1 + 2 * (mtx i).1.1 := by rw [← Int.add_mul]; congr 1; omega
      have m2 : (l + 1) * (mtx i).1.2 = (l - 1) * (mtx i).1.2 + 2 * (mtx i).1.2 := by rw [← Int.add_mul]; congr 1; omega
      refine Prod.ext ?_ ?_ <;> simp only <;> omega
    have gA := mtx_gcd (i ++ [l - 1] ++ [2])
    have gB := mtx_gcd (i ++ [l + 1])
    rw [vA] at gA
    rw [vB] at gB
    refine ⟨fun hk => ?_, fun hk => ?_, gA, gB, hnn⟩
    · obtain ⟨k1, k2, k3, k4⟩ := okF_bd hk
      have hp := (parent_of hA (by rw [vA]; exact k4) (by rw [vA]; exact k2) (by omega)).2
      rw [vA] at hp
      simp only at hp
      rw [hp]
      have hs : shtL (i ++ [l - 1]) 2 = i ++ [l - 1] := by
        unfold shtL
        rw [if_neg (by omega), if_neg ?_]
        intro e
        cases i with
        | nil => simp at e; omega
        | cons y i => simp at e
      rw [hs, hback]
    · obtain ⟨k1, k2, k3, k4⟩ := okF_bd hk
      have hp := (parent_of hB (by rw [vB]; exact k4) (by rw [vB]; exact k2) (by omega)).2
      rw [vB] at hp
      simp only at hp
      rw [hp]
      have hs : shtL i (l + 1) = i ++ [l - 1] := by
        unfold shtL
        rw [if_pos (by omega), show l + 1 - 2 = l - 1 by omega]
      rw [hs, hback]
end Go.Proofs.YtlmmpeeacjbobaaGreatDoor
namespace Go.Proofs.YtlmmpeeacjbobaaGreatDoor
open Go.RowKit

def tmsW (l : List Int) : Bool := decide (1 ≤ l.length) && decide (l.length ≤ 60) && inB (l.getD 0 0) (-1000000001) 1000000001 && (l.drop 1).all fun t => inB t 1 1000000001
theorem tmsW_iff {l : List Int} : tmsW l = true ↔ (1 ≤ l.length ∧ l.length ≤ 60) ∧ (-1000000001 ≤ l.getD 0 0 ∧ l.getD 0 0 ≤ 1000000001) ∧ ∀ t ∈ l.drop 1, 1 ≤ t ∧ t ≤ 1000000001 := by
  unfold tmsW
  rw [Bool.and_eq_true, Bool.and_eq_true, Bool.and_eq_true, decide_eq_true_eq, decide_eq_true_eq, inB_iff, List.all_eq_true]
  constructor
  · rintro ⟨⟨h1, h2⟩, h3⟩
    exact ⟨h1, h2, fun t ht => inB_iff.1 (h3 t ht)⟩
  · rintro ⟨h1, h2, h3⟩
    exact ⟨⟨h1, h2⟩, fun t ht => inB_iff.2 (h3 t ht)⟩
theorem tmsW_get {zs : List Int} (ht : tmsW zs = true) {j : Nat} {t : Int} (h : zs[j]? = some t) : -1000000001 ≤ t ∧ t ≤ 1000000001 := by
  obtain ⟨_, h2, h3⟩ := tmsW_iff.1 ht
  cases j with
  | zero =>
    have e : zs.getD 0 0 = t := by rw [List.getD_eq_getElem?_getD, h]; rfl
    rw [e] at h2; exact h2
  | succ j =>
    have := h3 t (List.mem_of_getElem? (i := j) (by rw [List.getElem?_drop, Nat.add_comm]; exact h))
    omega
theorem mulw {a b : Int} (a1 : -1000000001 ≤ a) (a2 : a ≤ 1000000001) (b1 : -1000000000 ≤ b) (b2 : b ≤ 1000000000) : -1000000001000000000 ≤ a * b ∧ a * b ≤ 1000000001000000000 := by
  have h := Int.natAbs_mul a b
  have : a.natAbs * b.natAbs ≤ 1000000001 * 1000000000 := Nat.mul_le_mul (by omega) (by omega)
  omega
end Go.Proofs.YtlmmpeeacjbobaaGreatDoor
namespace Go.Proofs.YtlmmpeeacjbobaaGreatDoor
open Go.RowKit

theorem own_slice {w : World} {base size n : Nat} {e : TypeId} {v : Value} {xs : List Value} (h : w.ownsRow base e size v n xs) : ∃ a c, v = .slice a n c := by
  rcases h.2 with ⟨rfl, rfl⟩ | ⟨g, cap, cur, rfl, _⟩
  · exact ⟨none, 0, rfl⟩
  · exact ⟨_, _, rfl⟩
theorem blk_at1' (w : World) (t : TypeId) (cs : Array Value) (o : Obj) : Blk ((w.alloc o).alloc (.cells cs t)) (w.heap.size + 1) t cs := by
  have h := Blk.new (w.alloc o) t cs
  rw [World.size_alloc] at h
  exact h
theorem blk_at2' (w : World) (t : TypeId) (cs : Array Value) (o o' : Obj) : Blk (((w.alloc o).alloc o').alloc (.cells cs t)) (w.heap.size + 1 + 1) t cs := by
  have h := Blk.new ((w.alloc o).alloc o') t cs
  rw [World.size_alloc, World.size_alloc] at h
  exact h
theorem posC_one (xs ys : Nat → Int) (m : Nat) (hm : m = 1) {r : Int} (h : posC (xs 0) (ys 0) = r) : (if ∀ t, t < m → okF (xs t) (ys t) = true then (if ∀ t, t < m → 1 ≤ xs t then (0 : Int) else 2) else 1) = r := by
  subst hm
  rw [← h]
  unfold posC
  have e0 : ∀ t, t < 1 → t = 0 := fun t ht => by omega
  by_cases h1 : okF (xs 0) (ys 0) = true
  · rw [if_pos (fun t ht => by rw [e0 t ht]; exact h1), if_pos h1]
    by_cases h2 : 1 ≤ xs 0
    · rw [if_pos (fun t ht => by rw [e0 t ht]; exact h2), if_pos h2]
    · rw [if_neg (fun h => h2 (h 0 (by omega))), if_neg h2]
  · rw [if_neg (fun h => h1 (h 0 (by omega))), if_neg h1]
end Go.Proofs.YtlmmpeeacjbobaaGreatDoor
namespace Go.Proofs.YtlmmpeeacjbobaaGreatDoor
open Go.RowKit

/-- The fraction at the end of a path, and its code. -/
def fpM (s : List Int) : Int × Int × Int := if okR s then (if faB s then ((faM s).1, (faM s).2, 0) else (0, 0, 5)) else (0, 0, 1)
theorem fa_bad {s : List Int} (h : faB s = false) : faM s = (0, 0) := by
  unfold faB at h
  unfold faM
  split at h
  · cases h
  · rename_i e
    rw [if_neg e]
    unfold caM at h ⊢
    split at h
    · cases h
    · rename_i e2; rw [if_neg e2]
theorem tmsW_snoc {j : List Int} {m : Int} (h : okR (j ++ [m]) = true) : tmsW (j ++ [m + 1]) = true := by
  obtain ⟨h1, h2, h3, h4⟩ := okR_snoc.1 h
  rw [tmsW_iff, List.length_append, List.length_singleton]
  refine ⟨by omega, ?_, fun t ht => ?_⟩
  · cases j with
    | nil => simp; omega
    | cons y j => have := h1 y (by simp); simp; omega
  · cases j with
    | nil => simp at ht
    | cons y j =>
      simp only [List.cons_append, List.drop_one, List.tail_cons] at ht
      rcases List.mem_append.1 ht with e | e
      · have a := h1 t (by simp [e])
        have b := h2 t (by simpa using e)
        omega
      · rw [List.mem_singleton] at e; omega
def sumN (s : List Int) (j : Nat) : Int := (s.take j).sum
theorem sumN_succ {s : List Int} {j : Nat} {x : Int} (h : s[j]? = some x) : sumN s (j + 1) = sumN s j + x := by
  unfold sumN
  rw [List.take_add_one, h]
  simp
theorem sumN_bd {s : List Int} (h : ∀ t ∈ s, 0 ≤ t ∧ t ≤ 1000000000) : ∀ j : Nat, 0 ≤ sumN s j ∧ sumN s j ≤ (j : Int) * 1000000000
  | 0 => by simp [sumN]
  | j + 1 => by
    have ih := sumN_bd h j
    cases hx : s[j]? with
    | none =>
      have : sumN s (j + 1) = sumN s j := by unfold sumN; rw [List.take_add_one, hx]; simp
      rw [this]; omega
    | some x =>
      rw [sumN_succ hx]
      have := h x (List.mem_of_getElem? hx)
      omega
def SuR (w : World) (s : List Int) (n : Nat) (k : Nat) (a i : Value) (wr : World) : Prop :=
  ∃ j : Nat, j ≤ n ∧ n ≤ j + k ∧ i = .int .i64 j ∧ a = .int .i64 (sumN s j) ∧ Below w.heap.size w wr
end Go.Proofs.YtlmmpeeacjbobaaGreatDoor
namespace Go.Proofs.YtlmmpeeacjbobaaGreatDoor
open Go.RowKit

theorem results_four' {fn : Func} {t u v x : Tmp} (h : fn.results = #[.tmp t, .tmp u, .tmp v, .tmp x]) (tmps : Array Value) (P : Program) (w : World) :
    (results fn tmps).run P w = .ok (.tuple #[tmps.getD t undef, tmps.getD u undef, tmps.getD v undef, tmps.getD x undef]) w := by simp [results, h]
theorem pth_ok' {i : List Int} {l : Int} (E : ExL i l) : (∀ t ∈ pthL i l, 0 ≤ t ∧ t ≤ 1000000000) ∧ (pthL i l).length ≤ 60 := by
  have hk := okR_pth E
  unfold pthL at hk ⊢
  split
  · simp
  · rename_i hl
    rw [if_neg hl] at hk
    obtain ⟨h1, h2, h3, h4⟩ := okR_snoc.1 hk
    refine ⟨fun t ht => ?_, by simp; omega⟩
    rcases List.mem_append.1 ht with e | e
    · exact h1 t e
    · rw [List.mem_singleton] at e; omega
theorem pt_bd {n d : Int} : (∀ t ∈ ptP n d, 0 ≤ t ∧ t ≤ 1000000000) ∧ (ptP n d).length ≤ 60 := by
  by_cases h : posC n d = 0
  · obtain ⟨hok, ⟨n1, n2⟩, d1, d2⟩ := pos_facts h
    obtain ⟨i, l, hL, E⟩ := ex_all n1 n2 d1 d2
    rw [pt_of h hL]
    have := pth_ok' E
    exact this
  · unfold ptP; rw [if_neg h]; simp
set_option maxHeartbeats 2000000 in
theorem levelI_any (n d : Int) (w : World) : Calls Tryz.prog 16 #[.agg #[.int .i64 n, .int .i64 d]] w (Ret w (.tuple #[.int .i64 (ptP n d).sum, .int .i64 (posC n d)])) := by
  obtain ⟨r, hr⟩ : ∃ r, posC n d = r := ⟨_, rfl⟩
  have H := Lib.hid (posC_one (fun _ => n) (fun _ => d) 1 rfl hr)
  by_cases h0 : r = 0
  · subst h0
    obtain ⟨hok, ⟨n1, n2⟩, d1, d2⟩ := pos_facts hr
    obtain ⟨i, l, hL, E⟩ := ex_all n1 n2 d1 d2
    have kP := fun w => pathTo_any n d n1 n2 d1 d2 i l hL E w
    obtain ⟨hbd, hlen⟩ := pt_bd (n := n) (d := d)
    rw [pt_of hr hL] at hbd hlen ⊢
    rw [hr]
    generalize pthL i l = s at *
    have hsum : sumN s s.length = s.sum := by unfold sumN; rw [List.take_of_length_le (Nat.le_refl _)]
    rw [← hsum]
    have HB := Lib.hid (sumN_bd hbd)
    clear hr hL E hok hbd hsum
    go_enter Tryz.func16, Tryz.ntmps16
    go_wp2_with fail
    apply Calls.mono
    · with_reducible exact checkPositive_any 1 1 _ (fun _ => n) (fun _ => d) (by omega) (by omega) (by omega) _ (by simp) (by intro j hj; obtain rfl : j = 0 := (by omega); exact ⟨(blk_at1' w _ _ _).cell 0, (blk_at1' w _ _ _).cell 1⟩) 0 H.out
    rintro _ w1 ⟨rfl, hb_w1⟩
    obtain ⟨hc_w1, hf_w1, hs_w1⟩ := bcell hb_w1
    try simp at hs_w1
    have hz_w1_w0 : w.heap.size < w1.heap.size := by omega
    have hy_w1_w0 : w.heap.size ≤ w1.heap.size := by omega
    have hx_w1_w0 : ∀ n : Nat, w.heap.size < w1.heap.size + n := by intro n; omega
    have hv_w1_w0 : ∀ n : Nat, w.heap.size ≤ w1.heap.size + n := by intro n; omega
    have hz_w1_w1 : w.heap.size + 1 < w1.heap.size := by omega
    have hy_w1_w1 : w.heap.size + 1 ≤ w1.heap.size := by omega
    have hx_w1_w1 : ∀ n : Nat, w.heap.size + 1 < w1.heap.size + n := by intro n; omega
    have hv_w1_w1 : ∀ n : Nat, w.heap.size + 1 ≤ w1.heap.size + n := by intro n; omega
    go_wp2_with fail
    apply Calls.mono
    · with_reducible exact kP _
    rintro _ w2 ⟨v2, rfl, ho2, hb_w2⟩
    obtain ⟨hc_w2, hf_w2, hs_w2⟩ := bcell hb_w2
    try simp at hs_w2
    have hz_w2_w0 : w.heap.size < w2.heap.size := by omega
    have hy_w2_w0 : w.heap.size ≤ w2.heap.size := by omega
    have hx_w2_w0 : ∀ n : Nat, w.heap.size < w2.heap.size + n := by intro n; omega
    have hv_w2_w0 : ∀ n : Nat, w.heap.size ≤ w2.heap.size + n := by intro n; omega
    have hz_w2_w1 : w.heap.size + 1 < w2.heap.size := by omega
    have hy_w2_w1 : w.heap.size + 1 ≤ w2.heap.size := by omega
    have hx_w2_w1 : ∀ n : Nat, w.heap.size + 1 < w2.heap.size + n := by intro n; omega
    have hv_w2_w1 : ∀ n : Nat, w.heap.size + 1 ≤ w2.heap.size + n := by intro n; omega
    have hbw2 : Below w.heap.size w w2 := by repeat' (first | (with_reducible exact Below.refl _ _) | (with_reducible assumption) | (with_reducible refine Below.alloc ?_ ?_ _) | (with_reducible refine Below.drew ?_) | (with_reducible refine bdrewN ?_ _) | (with_reducible refine Below.setCell ?_ ?_ _) | (with_reducible refine bthen ?_ (by assumption) ?_) | go_size)
    obtain ⟨A, c, rfl, hn1, hc1, _, hr1⟩ := Rd.of_own ho2
    have R1 := Lib.hid hr1
    have hcl : (s.length : Int) ≤ 9223372036854775807 := by omega
    clear ho2 hr1 hc_w1 hf_w1 hc_w2 hf_w2 hb_w1 hb_w2
    go_wp2_with fail
    go_loopg [5, 17] s.length (fun k a i wr => SuR w2 s s.length k a i wr)
    case atStart => exact ⟨0, by omega, by omega, rfl, rfl, Below.refl _ _⟩
    case round =>
      obtain ⟨j, hj1, hj2, rfl, rfl, hbw⟩ := hrel
      have hs := hbw.size
      by_cases hjn : j < s.length
      · obtain ⟨x, hx⟩ := get_ex (l := s) (k := j) hjn
        rcases R1.out with h0 | ⟨g, o, rfl, hg, hcell⟩
        · omega
        have c1 : wr.cell? ⟨g, o + j, none⟩ = some (.int .i64 x) := (hbw.cell (p := ⟨g, o + j, none⟩) hg).trans (hcell j _ (ints_get hx))
        have hgw : g < wr.heap.size := by omega
        have hjn' : (j : Int) < (s.length : Int) := by omega
        have b1 := HB.out j
        have b2 := HB.out (j + 1)
        rw [sumN_succ hx] at b2
        have HS := Lib.hid (sumN_succ hx)
        clear hx hcell R1
        generalize hq : sumN s j = q at *
        go_wp2
        go_roundg (gk - 1)
        case measure => omega
        case rel => exact ⟨j + 1, by omega, by omega, by go_num, by rw [HS.out], hbw⟩
      · have hj : j = s.length := by omega
        subst hj
        have b1 := HB.out s.length
        have belz := bthen hbw2 hbw hbw2.size
        go_wp2
        go_ret2
        refine ⟨by first | rfl | (simp), ?_⟩
        repeat' (first | (with_reducible exact Below.refl _ _) | (with_reducible assumption) | (with_reducible refine Below.alloc ?_ ?_ _) | (with_reducible refine Below.drew ?_) | (with_reducible refine bdrewN ?_ _) | (with_reducible refine Below.setCell ?_ ?_ _) | (with_reducible refine bthen ?_ (by assumption) ?_) | go_size)
  · have hp : ptP n d = [] := by unfold ptP; rw [if_neg (by rw [hr]; exact h0)]
    rw [hp, hr]
    have hne : (r != 0) = true := by simp [h0]
    clear hr h0 hp
    go_enter Tryz.func16, Tryz.ntmps16
    go_wp2_with fail
    apply Calls.mono
    · with_reducible exact checkPositive_any 1 1 _ (fun _ => n) (fun _ => d) (by omega) (by omega) (by omega) _ (by simp) (by intro j hj; obtain rfl : j = 0 := (by omega); exact ⟨(blk_at1' w _ _ _).cell 0, (blk_at1' w _ _ _).cell 1⟩) r H.out
    rintro _ w1 ⟨rfl, hb_w1⟩
    obtain ⟨hc_w1, hf_w1, hs_w1⟩ := bcell hb_w1
    try simp at hs_w1
    have hz_w1_w0 : w.heap.size < w1.heap.size := by omega
    have hy_w1_w0 : w.heap.size ≤ w1.heap.size := by omega
    have hx_w1_w0 : ∀ n : Nat, w.heap.size < w1.heap.size + n := by intro n; omega
    have hv_w1_w0 : ∀ n : Nat, w.heap.size ≤ w1.heap.size + n := by intro n; omega
    have hz_w1_w1 : w.heap.size + 1 < w1.heap.size := by omega
    have hy_w1_w1 : w.heap.size + 1 ≤ w1.heap.size := by omega
    have hx_w1_w1 : ∀ n : Nat, w.heap.size + 1 < w1.heap.size + n := by intro n; omega
    have hv_w1_w1 : ∀ n : Nat, w.heap.size + 1 ≤ w1.heap.size + n := by intro n; omega
    go_wp2
    go_ret2
    refine ⟨by first | rfl | (simp), ?_⟩
    repeat' (first | (with_reducible exact Below.refl _ _) | (with_reducible assumption) | (with_reducible refine Below.alloc ?_ ?_ _) | (with_reducible refine Below.drew ?_) | (with_reducible refine bdrewN ?_ _) | (with_reducible refine Below.setCell ?_ ?_ _) | (with_reducible refine bthen ?_ (by assumption) ?_) | go_size)
/-- The left and the right bound of a path. -/
def bnP (s : List Int) : Int × Int := if s.length % 2 = 0 then (mtx s).2 else (mtx s).1
def bnR (s : List Int) : Int × Int := if s.length % 2 = 0 then (mtx s).1 else (mtx s).2
theorem bn_even {s : List Int} (x : Int) (h : s.length % 2 = 0) : bnP (s ++ [x]) = ((bnP s).1 + x * (bnR s).1, (bnP s).2 + x * (bnR s).2) ∧ bnR (s ++ [x]) = bnR s := by
  have h2 : ¬ (s.length + 1) % 2 = 0 := by omega
  unfold bnP bnR
  rw [List.length_append, List.length_singleton, if_neg h2, if_neg h2, if_pos h, if_pos h, mtx_last]
  refine ⟨Prod.ext ?_ ?_, rfl⟩ <;> simp only <;> omega
theorem bn_odd {s : List Int} (x : Int) (h : ¬ s.length % 2 = 0) : bnR (s ++ [x]) = ((bnR s).1 + x * (bnP s).1, (bnR s).2 + x * (bnP s).2) ∧ bnP (s ++ [x]) = bnP s := by
  have h2 : (s.length + 1) % 2 = 0 := by omega
  unfold bnP bnR
  rw [List.length_append, List.length_singleton, if_pos h2, if_pos h2, if_neg h, if_neg h, mtx_last]
  refine ⟨Prod.ext ?_ ?_, rfl⟩ <;> simp only <;> omega
/-- All matrices on the way are small. -/
def SmM (s : List Int) : Prop := (∀ t ∈ s, 0 ≤ t ∧ t ≤ 1000000000) ∧ s.length ≤ 60 ∧ ∀ k : Nat, k ≤ s.length → (0 ≤ (bnP (s.take k)).1 ∧ (bnP (s.take k)).1 ≤ 1000000000) ∧ (0 ≤ (bnP (s.take k)).2 ∧ (bnP (s.take k)).2 ≤ 1000000000) ∧ (0 ≤ (bnR (s.take k)).1 ∧ (bnR (s.take k)).1 ≤ 1000000000) ∧ (0 ≤ (bnR (s.take k)).2 ∧ (bnR (s.take k)).2 ≤ 1000000000)
theorem sm_path {n d : Int} (h : posC n d = 0) : SmM (ptP n d) := by
  obtain ⟨hok, ⟨n1, n2⟩, d1, d2⟩ := pos_facts h
  obtain ⟨c1, c2, _, _, _, _, z1, z2, z3, z4⟩ := child_parent h
  obtain ⟨hbd, hlen⟩ := pt_bd (n := n) (d := d)
  have hk := (path_back h).1
  generalize ptP n d = s at *
  refine ⟨hbd, hlen, fun k hkl => ?_⟩
  -- a prefix' matrix lies below the whole one
  have key : ∀ k : Nat, k ≤ s.length → (0 ≤ (mtx (s.take k)).1.1 ∧ (mtx (s.take k)).1.1 ≤ 1000000000) ∧ (0 ≤ (mtx (s.take k)).1.2 ∧ (mtx (s.take k)).1.2 ≤ 1000000000) := by
    intro k hkl
    have nn := mtx_nn (a := s.take k) (fun t ht => (hbd t (List.mem_of_mem_take ht)).1)
    by_cases hk0 : k = 0
    · subst hk0; simp [mtx]
    · have e := List.take_append_drop k s
      have hb : ∀ t ∈ s.drop k, 1 ≤ t := by
        intro t ht
        by_cases es : s = []
        · subst es; simp at ht
        · obtain ⟨j, m, rfl⟩ := snoc_of es
          obtain ⟨h1, h2, h3, h4⟩ := okR_snoc.1 hk
          have ht2 : t ∈ (j ++ [m]).drop 1 := by
            have e2 : (j ++ [m]).drop k = ((j ++ [m]).drop 1).drop (k - 1) := by rw [List.drop_drop]; congr 1; omega
            rw [e2] at ht
            exact List.mem_of_mem_drop ht
          cases j with
          | nil => simp at ht2
          | cons y j =>
            simp only [List.cons_append, List.drop_one, List.tail_cons] at ht2
            rcases List.mem_append.1 ht2 with e | e
            · exact h2 t (by simpa using e)
            · rw [List.mem_singleton] at e; omega
      have g := mtx_grow (a := s.take k) (b := s.drop k) (fun t ht => (hbd t (List.mem_of_mem_take ht)).1) hb
      rw [e] at g
      omega
  have key2 : (0 ≤ (mtx (s.take k)).2.1 ∧ (mtx (s.take k)).2.1 ≤ 1000000000) ∧ (0 ≤ (mtx (s.take k)).2.2 ∧ (mtx (s.take k)).2.2 ≤ 1000000000) := by
    cases k with
    | zero => simp [mtx]
    | succ k =>
      obtain ⟨x, hx⟩ := get_ex (l := s) (k := k) (by omega)
      rw [List.take_add_one, hx]
      show (0 ≤ (mtx (s.take k ++ [x])).2.1 ∧ _) ∧ _
      have e : mtx (s.take k ++ (some x).toList) = mtx (s.take k ++ [x]) := rfl
      rw [e, mtx_last]
      exact key k (by omega)
  have key1 := key k hkl
  unfold bnP bnR
  split
  · exact ⟨key2.1, key2.2, key1.1, key1.2⟩
  · exact ⟨key1.1, key1.2, key2.1, key2.2⟩
end Go.Proofs.YtlmmpeeacjbobaaGreatDoor
namespace Go.Proofs.YtlmmpeeacjbobaaGreatDoor
open Go.RowKit

end Go.Proofs.YtlmmpeeacjbobaaGreatDoor
namespace Go.Proofs.YtlmmpeeacjbobaaGreatDoor
open Go.RowKit

def cmpF (a b : Int) : Int := if a < b then -1 else if b < a then 1 else 0
theorem compare_any (a b : Int) (w : World) : Calls Tryz.prog 53 #[.int .i64 a, .int .i64 b] w (Ret w (.int .i64 (cmpF a b))) := by
  by_cases h1 : a < b
  · have e : cmpF a b = -1 := by unfold cmpF; rw [if_pos h1]
    rw [e]; clear e
    go_enter Tryz.func53, Tryz.ntmps53
    go_wp2
    go_ret
    refine ⟨by first | rfl | (simp), ?_⟩
    repeat' (first | (with_reducible exact Below.refl _ _) | (with_reducible assumption) | (with_reducible refine Below.alloc ?_ ?_ _) | (with_reducible refine Below.drew ?_) | (with_reducible refine bdrewN ?_ _) | (with_reducible refine Below.setCell ?_ ?_ _) | (with_reducible refine bthen ?_ (by assumption) ?_) | go_size)
  · by_cases h2 : b < a
    · have e : cmpF a b = 1 := by unfold cmpF; rw [if_neg h1, if_pos h2]
      rw [e]; clear e
      go_enter Tryz.func53, Tryz.ntmps53
      go_wp2
      go_ret
      refine ⟨by first | rfl | (simp), ?_⟩
      repeat' (first | (with_reducible exact Below.refl _ _) | (with_reducible assumption) | (with_reducible refine Below.alloc ?_ ?_ _) | (with_reducible refine Below.drew ?_) | (with_reducible refine bdrewN ?_ _) | (with_reducible refine Below.setCell ?_ ?_ _) | (with_reducible refine bthen ?_ (by assumption) ?_) | go_size)
    · have e : cmpF a b = 0 := by unfold cmpF; rw [if_neg h1, if_neg h2]
      rw [e]; clear e
      go_enter Tryz.func53, Tryz.ntmps53
      go_wp2
      go_ret
      refine ⟨by first | rfl | (simp), ?_⟩
      repeat' (first | (with_reducible exact Below.refl _ _) | (with_reducible assumption) | (with_reducible refine Below.alloc ?_ ?_ _) | (with_reducible refine Below.drew ?_) | (with_reducible refine bdrewN ?_ _) | (with_reducible refine Below.setCell ?_ ?_ _) | (with_reducible refine bthen ?_ (by assumption) ?_) | go_size)
theorem compareF_any (a b c d : Int) (h1 : okF a b = true) (h2 : okF c d = true) (w : World) : Calls Tryz.prog 40 #[.agg #[.int .i64 a, .int .i64 b], .agg #[.int .i64 c, .int .i64 d]] w (Ret w (.int .i64 (cmpF (a * d) (c * b)))) := by
  obtain ⟨a1, a2, a3, a4⟩ := okF_bd h1
  obtain ⟨b1, b2, b3, b4⟩ := okF_bd h2
  obtain ⟨m1, m2⟩ := mul_bd9 (a := a) (b := d) a3 a4 (by omega) b2
  obtain ⟨m3, m4⟩ := mul_bd9 (a := c) (b := b) b3 b4 (by omega) a2
  clear h1 h2
  go_enter Tryz.func40, Tryz.ntmps40
  go_wp2_with fail
  apply Calls.mono
  · with_reducible exact compare_any _ _ _
  rintro _ w1 ⟨rfl, hb_w1⟩
  obtain ⟨hc_w1, hf_w1, hs_w1⟩ := bcell hb_w1
  try simp at hs_w1
  have hz_w1_w0 : w.heap.size < w1.heap.size := by omega
  have hy_w1_w0 : w.heap.size ≤ w1.heap.size := by omega
  have hx_w1_w0 : ∀ n : Nat, w.heap.size < w1.heap.size + n := by intro n; omega
  have hv_w1_w0 : ∀ n : Nat, w.heap.size ≤ w1.heap.size + n := by intro n; omega
  have hz_w1_w1 : w.heap.size + 1 < w1.heap.size := by omega
  have hy_w1_w1 : w.heap.size + 1 ≤ w1.heap.size := by omega
  have hx_w1_w1 : ∀ n : Nat, w.heap.size + 1 < w1.heap.size + n := by intro n; omega
  have hv_w1_w1 : ∀ n : Nat, w.heap.size + 1 ≤ w1.heap.size + n := by intro n; omega
  go_wp2
  go_ret
  refine ⟨by first | rfl | (simp), ?_⟩
  repeat' (first | (with_reducible exact Below.refl _ _) | (with_reducible assumption) | (with_reducible refine Below.alloc ?_ ?_ _) | (with_reducible refine Below.drew ?_) | (with_reducible refine bdrewN ?_ _) | (with_reducible refine Below.setCell ?_ ?_ _) | (with_reducible refine bthen ?_ (by assumption) ?_) | go_size)
theorem compareFI_any (a b c d : Int) (h1 : okF a b = true) (h2 : okF c d = true) (w : World) : Calls Tryz.prog 17 #[.agg #[.int .i64 a, .int .i64 b], .agg #[.int .i64 c, .int .i64 d]] w (Ret w (.tuple #[.int .i64 (cmpF (a * d) (c * b)), .int .i64 0])) := by
  have H1 := Lib.hid h1
  have H2 := Lib.hid h2
  clear h1 h2
  go_enter Tryz.func17, Tryz.ntmps17
  go_wp2_with fail
  apply Calls.mono
  · with_reducible exact validFraction_any _ _ true H1.out _
  rintro _ w1 ⟨rfl, hb_w1⟩
  obtain ⟨hc_w1, hf_w1, hs_w1⟩ := bcell hb_w1
  try simp at hs_w1
  have hz_w1_w0 : w.heap.size < w1.heap.size := by omega
  have hy_w1_w0 : w.heap.size ≤ w1.heap.size := by omega
  have hx_w1_w0 : ∀ n : Nat, w.heap.size < w1.heap.size + n := by intro n; omega
  have hv_w1_w0 : ∀ n : Nat, w.heap.size ≤ w1.heap.size + n := by intro n; omega
  have hz_w1_w1 : w.heap.size + 1 < w1.heap.size := by omega
  have hy_w1_w1 : w.heap.size + 1 ≤ w1.heap.size := by omega
  have hx_w1_w1 : ∀ n : Nat, w.heap.size + 1 < w1.heap.size + n := by intro n; omega
  have hv_w1_w1 : ∀ n : Nat, w.heap.size + 1 ≤ w1.heap.size + n := by intro n; omega
  go_wp2_with fail
  apply Calls.mono
  · with_reducible exact validFraction_any _ _ true H2.out _
  rintro _ w2 ⟨rfl, hb_w2⟩
  obtain ⟨hc_w2, hf_w2, hs_w2⟩ := bcell hb_w2
  try simp at hs_w2
  have hz_w2_w0 : w.heap.size < w2.heap.size := by omega
  have hy_w2_w0 : w.heap.size ≤ w2.heap.size := by omega
  have hx_w2_w0 : ∀ n : Nat, w.heap.size < w2.heap.size + n := by intro n; omega
  have hv_w2_w0 : ∀ n : Nat, w.heap.size ≤ w2.heap.size + n := by intro n; omega
  have hz_w2_w1 : w.heap.size + 1 < w2.heap.size := by omega
  have hy_w2_w1 : w.heap.size + 1 ≤ w2.heap.size := by omega
  have hx_w2_w1 : ∀ n : Nat, w.heap.size + 1 < w2.heap.size + n := by intro n; omega
  have hv_w2_w1 : ∀ n : Nat, w.heap.size + 1 ≤ w2.heap.size + n := by intro n; omega
  go_wp2_with fail
  apply Calls.mono
  · with_reducible exact compareF_any _ _ _ _ H1.out H2.out _
  rintro _ w3 ⟨rfl, hb_w3⟩
  obtain ⟨hc_w3, hf_w3, hs_w3⟩ := bcell hb_w3
  try simp at hs_w3
  have hz_w3_w0 : w.heap.size < w3.heap.size := by omega
  have hy_w3_w0 : w.heap.size ≤ w3.heap.size := by omega
  have hx_w3_w0 : ∀ n : Nat, w.heap.size < w3.heap.size + n := by intro n; omega
  have hv_w3_w0 : ∀ n : Nat, w.heap.size ≤ w3.heap.size + n := by intro n; omega
  have hz_w3_w1 : w.heap.size + 1 < w3.heap.size := by omega
  have hy_w3_w1 : w.heap.size + 1 ≤ w3.heap.size := by omega
  have hx_w3_w1 : ∀ n : Nat, w.heap.size + 1 < w3.heap.size + n := by intro n; omega
  have hv_w3_w1 : ∀ n : Nat, w.heap.size + 1 ≤ w3.heap.size + n := by intro n; omega
  go_wp2
  go_ret2
  refine ⟨by first | rfl | (simp), ?_⟩
  repeat' (first | (with_reducible exact Below.refl _ _) | (with_reducible assumption) | (with_reducible refine Below.alloc ?_ ?_ _) | (with_reducible refine Below.drew ?_) | (with_reducible refine bdrewN ?_ _) | (with_reducible refine Below.setCell ?_ ?_ _) | (with_reducible refine bthen ?_ (by assumption) ?_) | go_size)
end Go.Proofs.YtlmmpeeacjbobaaGreatDoor
