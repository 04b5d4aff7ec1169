/-
  The lines of Farey sequences: both packages' loops.
-/
import Derived.Test.YtlmmpeeacjbobaaDoorFlt
namespace Go.Proofs.YtlmmpeeacjbobaaDoor
open Go.RowKit

def FlO (w : World) (N : Nat) (k : Nat) (v n : Value) (wr : World) : Prop :=
  ∃ t : Nat, t ≤ N ∧ N ≤ t + k ∧ n = .int .i64 ((t : Int) + 1) ∧ wr.ownsRow w.heap.size 9 1 v t (strs (lnL t)) ∧ Below w.heap.size w wr
theorem ints_pair {xs : List (Int × Int)} {k : Nat} {z : Int × Int} (h : xs[k]? = some z) : (prs xs)[k * 2]? = some (.int .i64 z.1) ∧ (prs xs)[k * 2 + 1]? = some (.int .i64 z.2) := prs_get h
theorem own_slice' {w : World} {base size n : Nat} {e : TypeId} {v : Value} {xs : List Value} (h : w.ownsRow base e size v n xs) : ∃ a c, v = .slice a n c := by
  rcases h.2 with ⟨rfl, rfl⟩ | ⟨g, cap, cur, rfl, _⟩
  · exact ⟨none, 0, rfl⟩
  · exact ⟨_, _, rfl⟩
theorem own_blk2' {w : World} {base size : Nat} {e : TypeId} {n : Nat} {v : Value} {xs : List Value} (h : w.ownsRow base e size v n xs) (hn : 1 ≤ n) : ∃ g cap, v = .slice (some ⟨g, 0, none⟩) n cap ∧ base ≤ g ∧ g < w.heap.size ∧ n ≤ cap ∧ cap ≤ maxLen := by
  rcases h.2 with ⟨h', h0⟩ | ⟨g, cap, cur, h', hb, hg, hnc, hcm, hcs, htake⟩
  · omega
  · exact ⟨g, cap, h', hb, (Array.getElem?_eq_some_iff.1 hg).1, hnc, hcm⟩
def FlI (w : World) (ws : List ByteArray) (k : Nat) (v i : Value) (wr : World) : Prop :=
  ∃ j : Nat, j ≤ ws.length ∧ ws.length ≤ j + k ∧ i = .int .i64 j ∧ wr.ownsRow w.heap.size 9 1 v j (strs (ws.take j)) ∧ Below w.heap.size w wr
set_option maxHeartbeats 4000000 in
set_option maxRecDepth 100000 in
theorem fareyLinesI_any (N : Int) (w : World) (ht : Tb w) : Calls Tryd.prog 12 #[.int .i64 N] w (RetRow2 w 9 1 (flM N).1.length (strs (flM N).1) (flM N).2) := by
  cases h1 : inB N 1 10
  · have e : flM N = ([], 2) := by unfold flM; rw [h1]; rfl
    rw [e]
    have H1 := Lib.hid h1
    clear h1 e
    go_enter Tryd.func12, Tryd.ntmps12
    go_wp2_with fail
    apply Calls.mono
    · with_reducible exact within_any _ _ _ false H1.out _
    rintro _ w1 ⟨rfl, hb_w1⟩
    obtain ⟨hc_w1, hf_w1, hs_w1⟩ := bcell hb_w1
    try simp at hs_w1
    go_wp2
    go_ret2
    exact ⟨_, rfl, World.ownsRow_nil _ _ _ _, hb_w1⟩
  · obtain ⟨b1, b2⟩ := inB_iff.1 h1
    obtain ⟨M, rfl⟩ := Int.eq_ofNat_of_zero_le (show 0 ≤ N by omega)
    have e : flM (M : Int) = (lnL M, 0) := by unfold flM; rw [h1, Int.toNat_natCast]; rfl
    rw [e]
    simp only [lnL_len]
    have H1 := Lib.hid h1
    clear h1 e
    go_enter Tryd.func12, Tryd.ntmps12
    go_wp2_with fail
    apply Calls.mono
    · with_reducible exact within_any _ _ _ true H1.out _
    rintro _ w1 ⟨rfl, hb_w1⟩
    obtain ⟨hc_w1, hf_w1, hs_w1⟩ := bcell hb_w1
    try simp at hs_w1
    have ht1 := ht.below hb_w1
    have z1 := hb_w1.size
    clear hc_w1 hf_w1 hs_w1
    go_wp2_with fail
    go_loopg [4, 5] M (fun k v n wr => FlO w1 M k v n wr)
    case atStart => exact ⟨0, by omega, by omega, by go_num, World.ownsRow_nil _ _ _ _, Below.refl _ _⟩
    case round =>
      obtain ⟨t, ht2, ht3, rfl, hown, hbw⟩ := hrel
      have hsr := hbw.size
      have htr := ht1.below hbw
      by_cases htn : t < M
      · have htn' : (t : Int) + 1 ≤ (M : Int) := by omega
        obtain ⟨f1, f2⟩ := farL_len (N := (t : Int) + 1) (by omega) (by omega)
        have kF := fun w => farey_any ((t : Int) + 1) (by omega) (by omega) w
        have hok := fun p hp => far_ok' (N := (t : Int) + 1) (by omega) (by omega) p hp
        have hsz := fun j => ftL_take_size (N := (t : Int) + 1) (by omega) (by omega) j
        have htk := fun (j : Nat) (p : Int × Int) (h : (farL ((t : Int) + 1))[j]? = some p) => ftL_take h
        have hln := ftL_len ((t : Int) + 1)
        have hnew := lnL_succ t
        rw [show lnB ((t : Int) + 1) = jnB (ftL ((t : Int) + 1)) from rfl] at hnew
        generalize ftL ((t : Int) + 1) = ws at *
        generalize farL ((t : Int) + 1) = L at *
        obtain ⟨va, vc, rfl⟩ := own_slice' hown
        have HOK := Lib.hid hok
        have HSZ := Lib.hid hsz
        have HTK := Lib.hid htk
        have HNEW := Lib.hid hnew
        have HOWN := Lib.hid hown
        have HBW := Lib.hid hbw
        obtain ⟨WO, hWO⟩ : ∃ x, x = wr := ⟨_, rfl⟩
        subst hWO
        obtain ⟨gko, hgko⟩ : ∃ x, x = gk := ⟨_, rfl⟩
        rw [← hgko] at ht3
        clear hok hsz htk hnew hown hbw
        go_wp2_with fail
        apply Calls.mono
        · with_reducible exact kF _
        rintro _ w2 ⟨v2, rfl, ho2, hb_w2⟩
        obtain ⟨g, cap, rfl, g1, g2, g3, g4⟩ := own_blk2' ho2 f1
        have hs2 := hb_w2.size
        have ht4 := htr.below hb_w2
        have HO2 := Lib.hid ho2
        have HB2 := Lib.hid hb_w2
        clear ho2 hb_w2 kF
        go_wp2_with fail
        go_loopg [6, 20] ws.length (fun k v i wi => FlI w2 ws k v i wi)
        case atStart => exact ⟨0, by omega, by omega, by go_num, by simpa [strs] using World.ownsRow_nil _ _ _ _, Below.refl _ _⟩
        case round =>
          obtain ⟨j, hj1, hj2, rfl, hwn, hbi⟩ := hrel
          have hsi := hbi.size
          have hti := ht4.below hbi
          by_cases hjn : j < L.length
          · have hjn' : (j : Int) < (L.length : Int) := by omega
            obtain ⟨⟨p, q⟩, hp⟩ := get_ex (l := L) (k := j) hjn
            obtain ⟨i1, i2⟩ := prs_get hp
            have hok := HOK.out _ (List.mem_of_getElem? hp)
            have htk := HTK.out j _ hp
            simp only at hok htk i1 i2
            have c1 : wr.cell? ⟨g, j * 2, none⟩ = some (.int .i64 p) := (hbi.cell (p := ⟨g, j * 2, none⟩) g2).trans ((HO2.out.cellAt (j * 2) (by omega)).trans i1)
            have c2 : wr.cell? ⟨g, j * 2 + 1, none⟩ = some (.int .i64 q) := (hbi.cell (p := ⟨g, j * 2 + 1, none⟩) g2).trans ((HO2.out.cellAt (j * 2 + 1) (by omega)).trans i2)
            have hgw : g < wr.heap.size := by omega
            have kT := fun w h => fracTextI_any p q hok w h
            generalize ftB p q = T at *
            have HTK2 := Lib.hid htk
            have hta := hti.alloc (.cells #[.int .i64 p, .int .i64 q] 43)
            clear hok htk i1 i2 hp
            go_wp2_with fail
            apply Calls.mono
            · with_reducible exact kT _ hta
            rintro _ w4 ⟨rfl, hb_w4⟩
            have bel4 : Below w2.heap.size w2 w4 := bthen (hbi.alloc hsi _) hb_w4 (by rw [World.size_alloc]; omega)
            have own4 := own_below (hwn.alloc (.cells #[.int .i64 p, .int .i64 q] 43)) hb_w4 (Nat.le_refl _)
            have hs4 := bel4.size
            have hc4 : (w4.alloc (.cells #[.string T] 9)).cell? ⟨w4.heap.size, 0, none⟩ = some (.string T) := (Blk.new w4 9 #[.string T]).cell 0
            clear hb_w4 kT hta
            go_wp2_with (at_builtin; refine wp_appS rfl (.tmp 24) (.tmp 27) rfl w2.heap.size _ j (ws.take j) T w4.heap.size 1 rfl (own4.alloc _) rfl hc4 (by omega) (by rw [World.size_alloc]; omega) ?_; intro v6 w6 hown6 hgr6 hat6)
            go_roundg (gk - 1)
            case measure => omega
            case rel =>
              refine ⟨j + 1, by omega, by omega, by go_num, by rw [HTK2.out]; exact hown6, (bel4.alloc hs4 _).grown hgr6 (by rw [World.size_alloc]; omega) (fun k hk => (own4.lt k hk).1)⟩
          · obtain rfl : j = L.length := by omega
            have hsz := HSZ.out L.length
            have hta : ws.take L.length = ws := List.take_of_length_le (by omega)
            rw [hta] at hsz hwn
            obtain ⟨g5, cap5, rfl, q1, q2, q3, q4⟩ := own_blk2' hwn f1
            have hcells : ∀ (k : Nat) x, ws[k]? = some x → wr.cell? ⟨g5, 0 + k, none⟩ = some (.string x) := fun k x hx => by
              rw [Nat.zero_add]
              have hk : k < ws.length := by
                rcases Nat.lt_or_ge k ws.length with h | h
                · exact h
                · rw [List.getElem?_eq_none h] at hx; cases hx
              refine (hwn.cellAt k (by omega)).trans ?_
              simp [strs, hx]
            have kJ := Tryd.strings_Join g5 0 cap5 ws ⟨#[32]⟩ wr hcells q2 (by omega) (by omega) (by
              have h2 : (Lib.join (ws.map (·.data.toList)) (⟨#[32]⟩ : ByteArray).data.toList).length = (jnB ws).size := by
                show _ = (List.toArray _).size
                rw [List.size_toArray]
              rw [h2]; omega)
            have hj2 : (⟨(Lib.join (ws.map (·.data.toList)) (⟨#[32]⟩ : ByteArray).data.toList).toArray⟩ : ByteArray) = jnB ws := rfl
            rw [hj2, hln] at kJ
            have belW := bthen (bthen (Below.refl WO.heap.size WO) HB2.out (Nat.le_refl _)) hbi HB2.out.size
            have HNEW2 := HNEW.out
            generalize jnB ws = T at *
            have HNW := Lib.hid HNEW2
            have hjn' : ¬ ((L.length : Int) < (L.length : Int)) := by omega
            clear hcells hj2 HNEW HNEW2 hwn hta HO2
            generalize L.length = Ln at *
            go_wp2_with fail
            apply Calls.mono
            · with_reducible exact kJ
            rintro _ w7 ⟨rfl, hb_w7⟩
            have bel7 := bthen belW hb_w7 belW.size
            have own7 := own_below HOWN.out bel7 (Nat.le_refl _)
            have bel7' := bthen HBW.out bel7 HBW.out.size
            have hs7 := bel7'.size
            have hc7 : (w7.alloc (.cells #[.string T] 9)).cell? ⟨w7.heap.size, 0, none⟩ = some (.string T) := (Blk.new w7 9 #[.string T]).cell 0
            clear hb_w7 kJ
            go_wp2_with (at_builtin; refine wp_appS rfl (.tmp 30) (.tmp 33) rfl w1.heap.size _ t (lnL t) T w7.heap.size 1 rfl (own7.alloc _) rfl hc7 (by omega) (by rw [World.size_alloc]; omega) ?_; intro v8 w8 hown8 hgr8 hat8)
            go_roundg (gko - 1)
            case measure => omega
            case rel =>
              refine ⟨t + 1, by omega, by omega, by go_num, by rw [HNW.out]; exact hown8, (bel7'.alloc hs7 _).grown hgr8 (by rw [World.size_alloc]; omega) (fun k hk => (own7.lt k hk).1)⟩
      · obtain rfl : t = M := by omega
        have hM' : ¬ ((t : Int) + 1 ≤ (t : Int)) := by omega
        have belz := bthen hb_w1 hbw z1
        go_wp2
        go_ret2
        exact ⟨_, rfl, own_base hown z1, belz⟩
def FlS (w : World) (ws : List ByteArray) (k : Nat) (v i : Value) (wr : World) : Prop :=
  ∃ j : Nat, j ≤ ws.length ∧ ws.length ≤ j + k ∧ i = .int .i64 j ∧ v = .string (jnB (ws.take j)) ∧ Below w.heap.size w wr
set_option maxHeartbeats 4000000 in
set_option maxRecDepth 100000 in
theorem fareyLinesS_any (N : Int) (w : World) : Calls Tryd.prog 11 #[.int .i64 N] w (RetRow2 w 9 1 (flM N).1.length (strs (flM N).1) (flM N).2) := by
  cases h1 : inB N 1 10
  · have e : flM N = ([], 2) := by unfold flM; rw [h1]; rfl
    rw [e]
    have H1 := Lib.hid h1
    clear h1 e
    go_enter Tryd.func11, Tryd.ntmps11
    go_wp2_with fail
    apply Calls.mono
    · with_reducible exact l00In_any _ _ _ false H1.out _
    rintro _ w1 ⟨rfl, hb_w1⟩
    obtain ⟨hc_w1, hf_w1, hs_w1⟩ := bcell hb_w1
    try simp at hs_w1
    go_wp2
    go_ret2
    exact ⟨_, rfl, World.ownsRow_nil _ _ _ _, hb_w1⟩
  · obtain ⟨b1, b2⟩ := inB_iff.1 h1
    obtain ⟨M, rfl⟩ := Int.eq_ofNat_of_zero_le (show 0 ≤ N by omega)
    have e : flM (M : Int) = (lnL M, 0) := by unfold flM; rw [h1, Int.toNat_natCast]; rfl
    rw [e]
    simp only [lnL_len]
    have H1 := Lib.hid h1
    clear h1 e
    go_enter Tryd.func11, Tryd.ntmps11
    go_wp2_with fail
    apply Calls.mono
    · with_reducible exact l00In_any _ _ _ true H1.out _
    rintro _ w1 ⟨rfl, hb_w1⟩
    obtain ⟨hc_w1, hf_w1, hs_w1⟩ := bcell hb_w1
    try simp at hs_w1
    have z1 := hb_w1.size
    clear hc_w1 hf_w1 hs_w1
    have hlit : (w1.alloc (.cells #[] 9)).ownsRow w1.heap.size 9 1 (.slice (some ⟨w1.heap.size, 0, none⟩) 0 0) 0 [] := World.ownsRow_lit w1 #[] 0 (Nat.le_refl _) (by simp [maxLen]) (by simp)
    go_wp2_with fail
    go_loopg [4, 5] M (fun k v n wr => FlO w1 M k v n wr)
    case atStart => exact ⟨0, by omega, by omega, by go_num, hlit, (Below.refl _ _).alloc (Nat.le_refl _) _⟩
    case round =>
      obtain ⟨t, ht2, ht3, rfl, hown, hbw⟩ := hrel
      have hsr := hbw.size
      by_cases htn : t < M
      · have htn' : (t : Int) + 1 ≤ (M : Int) := by omega
        obtain ⟨f1, f2⟩ := farL_len (N := (t : Int) + 1) (by omega) (by omega)
        have kF := fun w => l06All_any ((t : Int) + 1) (by omega) (by omega) w
        have hok := fun p hp => far_ok' (N := (t : Int) + 1) (by omega) (by omega) p hp
        have hsz := fun j => ftL_take_size (N := (t : Int) + 1) (by omega) (by omega) j
        have htk := fun (j : Nat) (p : Int × Int) (h : (farL ((t : Int) + 1))[j]? = some p) => ftL_take h
        have hln := ftL_len ((t : Int) + 1)
        have hnew := lnL_succ t
        rw [show lnB ((t : Int) + 1) = jnB (ftL ((t : Int) + 1)) from rfl] at hnew
        generalize ftL ((t : Int) + 1) = ws at *
        generalize farL ((t : Int) + 1) = L at *
        obtain ⟨va, vc, rfl⟩ := own_slice' hown
        have HOK := Lib.hid hok
        have HSZ := Lib.hid hsz
        have HTK := Lib.hid htk
        have HNEW := Lib.hid hnew
        have HOWN := Lib.hid hown
        have HBW := Lib.hid hbw
        obtain ⟨WO, hWO⟩ : ∃ x, x = wr := ⟨_, rfl⟩
        subst hWO
        obtain ⟨gko, hgko⟩ : ∃ x, x = gk := ⟨_, rfl⟩
        rw [← hgko] at ht3
        clear hok hsz htk hnew hown hbw
        go_wp2_with fail
        apply Calls.mono
        · with_reducible exact kF _
        rintro _ w2 ⟨v2, rfl, ho2, hb_w2⟩
        obtain ⟨g, cap, rfl, g1, g2, g3, g4⟩ := own_blk2' ho2 f1
        have hs2 := hb_w2.size
        have HO2 := Lib.hid ho2
        have HB2 := Lib.hid hb_w2
        clear ho2 hb_w2 kF
        have e0 : jnB (ws.take 0) = ⟨#[]⟩ := rfl
        go_wp2_with fail
        go_loopg [7, 8] ws.length (fun k v i wi => FlS w2 ws k v i wi)
        case atStart => exact ⟨0, by omega, by omega, by go_num, by rw [e0], Below.refl _ _⟩
        case round =>
          obtain ⟨j, hj1, hj2, rfl, rfl, hbi⟩ := hrel
          have hsi := hbi.size
          by_cases hjn : j < L.length
          · have hjn' : (j : Int) < (L.length : Int) := by omega
            obtain ⟨⟨p, q⟩, hp⟩ := get_ex (l := L) (k := j) hjn
            obtain ⟨i1, i2⟩ := prs_get hp
            have hok := HOK.out _ (List.mem_of_getElem? hp)
            have htk := HTK.out j _ hp
            have hs9 := HSZ.out j
            simp only at hok htk i1 i2
            have c1 : wr.cell? ⟨g, j * 2, none⟩ = some (.int .i64 p) := (hbi.cell (p := ⟨g, j * 2, none⟩) g2).trans ((HO2.out.cellAt (j * 2) (by omega)).trans i1)
            have c2 : wr.cell? ⟨g, j * 2 + 1, none⟩ = some (.int .i64 q) := (hbi.cell (p := ⟨g, j * 2 + 1, none⟩) g2).trans ((HO2.out.cellAt (j * 2 + 1) (by omega)).trans i2)
            have hgw : g < wr.heap.size := by omega
            have kT := fun w => l02Text_any p q hok w
            have hfs := ft_size hok
            generalize ftB p q = T at *
            by_cases hj0 : j = 0
            · subst hj0
              have hT' : jnB (ws.take (0 + 1)) = ⟨#[]⟩ ++ T := by
                rw [htk]
                show jnB ([] ++ [T]) = _
                rw [List.nil_append, jn_one]
                exact ByteArray.empty_append.symm
              rw [e0]
              simp only [Nat.zero_mul, Nat.zero_add] at c1 c2
              have HT' := Lib.hid hT'
              clear hok htk i1 i2 hp hT' e0 hs9
              go_wp2_with fail
              apply Calls.mono
              · with_reducible exact kT _
              rintro _ w4 ⟨rfl, hb_w4⟩
              have bel4 : Below w2.heap.size w2 w4 := bthen hbi hb_w4 hsi
              go_wp2
              go_roundg (gk - 1)
              case measure => omega
              case rel => exact ⟨0 + 1, by omega, by omega, by go_num, by rw [HT'.out], bel4⟩
            · have hne : ws.take j ≠ [] := by
                intro e
                have h2 := congrArg List.length e
                rw [List.length_take, List.length_nil] at h2
                omega
              have hT' : jnB (ws.take (j + 1)) = jnB (ws.take j) ++ ⟨#[32]⟩ ++ T := by rw [htk, jn_snoc _ hne]
              have hj0' : (0 : Int) < (j : Int) := by omega
              have HT' := Lib.hid hT'
              generalize jnB (ws.take j) = O at *
              clear hok htk i1 i2 hp hT' e0 hne
              go_wp2_with fail
              apply Calls.mono
              · with_reducible exact kT _
              rintro _ w4 ⟨rfl, hb_w4⟩
              have bel4 : Below w2.heap.size w2 w4 := bthen hbi hb_w4 hsi
              go_wp2
              go_roundg (gk - 1)
              case measure => omega
              case rel => exact ⟨j + 1, by omega, by omega, by go_num, by rw [HT'.out], bel4⟩
          · obtain rfl : j = L.length := by omega
            have hta : ws.take L.length = ws := List.take_of_length_le (by omega)
            rw [hta]
            have belW := bthen (bthen (Below.refl WO.heap.size WO) HB2.out (Nat.le_refl _)) hbi HB2.out.size
            have HNEW2 := HNEW.out
            generalize jnB ws = T at *
            have HNW := Lib.hid HNEW2
            have hjn' : ¬ ((L.length : Int) < (L.length : Int)) := by omega
            have own7 := own_below HOWN.out belW (Nat.le_refl _)
            have bel7' := bthen HBW.out belW HBW.out.size
            have hs7 := bel7'.size
            have hc7 : (wr.alloc (.cells #[.string T] 9)).cell? ⟨wr.heap.size, 0, none⟩ = some (.string T) := (Blk.new wr 9 #[.string T]).cell 0
            clear HNEW HNEW2 hta HO2 e0
            go_wp2_with (at_builtin; refine wp_appS rfl (.tmp 37) (.tmp 39) rfl w1.heap.size _ t (lnL t) T wr.heap.size 1 rfl (own7.alloc _) rfl hc7 (by omega) (by rw [World.size_alloc]; omega) ?_; intro v8 w8 hown8 hgr8 hat8)
            go_roundg (gko - 1)
            case measure => omega
            case rel =>
              refine ⟨t + 1, by omega, by omega, by go_num, by rw [HNW.out]; exact hown8, (bel7'.alloc hs7 _).grown hgr8 (by rw [World.size_alloc]; omega) (fun k hk => (own7.lt k hk).1)⟩
      · obtain rfl : t = M := by omega
        have hM' : ¬ ((t : Int) + 1 ≤ (t : Int)) := by omega
        have belz := bthen hb_w1 hbw z1
        go_wp2
        go_ret2
        exact ⟨_, rfl, own_base hown z1, belz⟩
end Go.Proofs.YtlmmpeeacjbobaaDoor
