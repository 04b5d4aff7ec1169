/-
  Draws of paths and of positive fractions. Printed by mkruns.py.
-/
import Derived.Test.YtlmmpeeacjbobaaGreatDoorNf
import Derived.Test.YtlmmpeeacjbobaaGreatDoorEx2
namespace Go.Proofs.YtlmmpeeacjbobaaGreatDoor
open Go.RowKit

theorem own_keep {w w' : World} {g base n : Nat} {e : TypeId} {v : Value} {xs : List Value} (h : w.ownsRow base e 1 v n xs) (k : w.grownBy w' (some g)) (hg : g < base) : w'.ownsRow base e 1 v n xs :=
  h.kept k (.inr (fun e => by have := (h.lt g e).1; omega))
theorem src_keep {b c : World} {g m : Nat} {r : Option Nat} (h : Src b g m) (k : b.grownBy c r) (hr : ∀ n, r = some n → g < n) (hg : g < b.heap.size) : Src c g m :=
  h.far k.size (fun x hx => k.block x (by omega) (fun e => by have := hr x e.symm; omega))
theorem own_sliceR {w : World} {base size n : Nat} {e : TypeId} {v : Value} {xs : List Value} (h : w.ownsRow base e size v n xs) : ∃ a c, v = .slice a n c := by
  rcases h.2 with ⟨rfl, rfl⟩ | ⟨g, cap, cur, rfl, _⟩
  · exact ⟨none, 0, rfl⟩
  · exact ⟨_, _, rfl⟩
theorem own_empty (w : World) {base : Nat} (hb : base ≤ w.heap.size) : (w.alloc (.cells #[] 2)).ownsRow base 2 1 (.slice (some ⟨w.heap.size, 0, none⟩) 0 0) 0 (ints []) :=
  World.ownsRow_lit (base := base) (e := 2) (size := 1) w #[] 0 hb (by simp [maxLen]) (by simp)
/-- A draw returned a short row of its own. -/
def DrewR (w : World) (g m : Nat) (e : Ending) (w' : World) : Prop :=
  ∃ v xs, e = .returned v ∧ xs.length ≤ 61 ∧ w'.ownsRow w.heap.size 2 1 v xs.length (ints xs) ∧ Src w' g m ∧ w.grownBy w' (some g)
def RnR (w : World) (g m K : Nat) (k : Nat) (v i : Value) (wr : World) : Prop :=
  ∃ xs : List Int, i = .int .i64 (k : Int) ∧ (k ≤ K ∧ xs.length + k = K) ∧ wr.ownsRow w.heap.size 2 1 v xs.length (ints xs) ∧ Src wr g (m + 2 * (K - k)) ∧ w.grownBy wr (some g)
def RmR (w : World) (g m K : Nat) (k : Nat) (v i : Value) (wr : World) : Prop :=
  ∃ xs : List Int, i = .int .i64 (k : Int) ∧ (k ≤ K ∧ xs.length + k = K) ∧ wr.ownsRow w.heap.size 2 1 v xs.length (ints xs) ∧ Src wr g m ∧ w.grownBy wr (some g)
set_option maxHeartbeats 8000000 in
set_option maxRecDepth 100000 in
theorem l05Runs_any (g m : Nat) (w : World) (h : Src w g m) (hm : m ≤ 500000) : Calls Tryz.prog 18 #[.pointer (some ⟨g, 0, none⟩)] w (DrewR w g (m + 30)) := by
  have hg0 := h.lt'
  have hrl := fun (w : World) (x : Int) => rs_lit1' w x
  have S0 := h.alloc' (.cells #[] 2)
  have G0 : w.grownBy (w.alloc (.cells #[] 2)) (some g) := World.grownBy_alloc w _ _
  have O0 := own_empty w (Nat.le_refl _)
  clear h
  go_enter Tryz.func18, Tryz.ntmps18
  go_wp2_with fail
  apply Calls.mono
  · with_reducible exact pick_any g m 7 _ S0 (by omega) (by omega) (by omega)
  rintro _ w1 ⟨K0, rfl, ⟨k0, k1⟩, s1, g1⟩
  obtain ⟨K, rfl⟩ := Int.eq_ofNat_of_zero_le k0
  have O1 := own_keep O0 g1 hg0
  have G1 := grown_tr G0 g1
  clear S0 G0 O0 g1
  go_wp2_with fail
  go_loopg [3, 4] K (fun k v i wr => RnR w g (m + 2) K k v i wr)
  case atStart => exact ⟨[], rfl, ⟨Nat.le_refl _, by simp⟩, O1, s1.mono (by omega), G1⟩
  case round =>
    obtain ⟨xs, rfl, ⟨hk1, hk2⟩, hown, hsrc, hgr⟩ := hrel
    have hsz := hgr.size
    clear O1 s1 G1
    cases gk with
    | succ gk =>
      have hkp : (0 : Int) < ((gk + 1 : Nat) : Int) := by omega
      have hm' : m + 2 + 2 * (K - (gk + 1)) ≤ 800000 := by omega
      generalize hmm : m + 2 + 2 * (K - (gk + 1)) = mm at *
      go_wp2_with fail
      apply Calls.mono
      · with_reducible exact pick_any g mm 5 _ hsrc (by omega) (by omega) (by omega)
      rintro _ w4 ⟨b4, rfl, ⟨b40, b41⟩, s4, g4⟩
      have o4 := own_keep hown g4 hg0
      have gr4 := grown_tr hgr g4
      have hst := hrl w4 (1 + b4)
      have zA : w.heap.size ≤ (w4.alloc (.cells #[.int .i64 (1 + b4)] 2)).heap.size := by rw [World.size_alloc]; have := gr4.size; omega
      have SA := s4.alloc' (.cells #[.int .i64 (1 + b4)] 2)
      have GA : w.grownBy (w4.alloc (.cells #[.int .i64 (1 + b4)] 2)) (some g) := grown_tr gr4 (World.grownBy_alloc w4 _ _)
      have LA := SA.lt'
      go_wp2_with (at_builtin; refine wp_appI rfl (.tmp 13) (.tmp 17) rfl w.heap.size _ _ xs.length 1 xs [(1 + b4)] rfl (o4.alloc _) rfl hst (by omega) zA ?_; intro v9 w9 hown9 hgr9 hat9)
      go_roundg gk
      case measure => omega
      case rel =>
        have hlt := fun k hk => (o4.lt k hk).1
        refine ⟨xs ++ [(1 + b4)], by go_num, ⟨by omega, by simp; omega⟩, by simpa using hown9, (src_keep SA hgr9 (fun n hn => Nat.lt_of_lt_of_le hg0 (hlt n hn)) LA).mono (by omega), grown_behind GA hgr9 hlt⟩
    | zero =>
      have hxl : xs.length ≤ 6 := by omega
      have hsrc2 : Src wr g (m + 14) := hsrc.mono (by omega)
      clear hk1 hk2 hsrc k0 k1 hsz
      generalize wr = WO at *
      by_cases h1 : 1 < xs.length
      · obtain ⟨g3, cap3, rfl, hg31, hg32, hnc, hcm⟩ := own_block hown (by omega)
        have h1' : (1 : Int) < (xs.length : Int) := by omega
        go_wp2_with fail
        apply Calls.mono
        · with_reducible exact one_any g (m + 14) 3 _ hsrc2 (by omega) (by omega) (by omega)
        rintro _ w5 ⟨o5, rfl, s5, g5⟩
        have o5' := own_keep hown g5 hg0
        have gr5 := grown_tr hgr g5
        clear hown hgr hsrc2 g5
        cases o5
        · skip
          go_wp2_with fail
          apply Calls.mono
          · with_reducible exact pick_any g (m + 16) 20 _ s5 (by omega) (by omega) (by omega)
          rintro _ w6 ⟨b, rfl, ⟨b0, b1⟩, s6, g6⟩
          have o6 := own_keep o5' g6 hg0
          have gr6 := grown_tr gr5 g6
          clear s5 o5' gr5 g6
          by_cases e0 : b = 0
          · subst e0
            have hL := World.ownsRow_lit (base := 0) (e := 2) (size := 1) w6 #[.int .i64 (-1), .int .i64 0, .int .i64 1000000000, .int .i64 1000000001] 4 (Nat.zero_le _) (by simp [maxLen]) (by simp)
            have kA := among_any g (m + 16 + 2) _ 4 [-1, 0, 1000000000, 1000000001] _ (s6.alloc' _) (by omega) (Rs.of_own hL) (fun e => by have e : some g = some w6.heap.size := e; injection e with e; have := s6.lt'; omega) (by omega) (by omega)
            have o6' := o6.alloc (.cells #[.int .i64 (-1), .int .i64 0, .int .i64 1000000000, .int .i64 1000000001] 2)
            have gr6' := grown_alloc gr6 (.cells #[.int .i64 (-1), .int .i64 0, .int .i64 1000000000, .int .i64 1000000001] 2)
            clear hL o6 gr6
            go_wp2_with fail
            apply Calls.mono
            · with_reducible exact kA
            rintro _ w7 ⟨z, rfl, hz, s7, g7⟩
            have o7 := own_keep o6' g7 hg0
            have gr7 := grown_tr gr6' g7
            clear kA hz o6' gr6' g7 s6
            have hst := hrl w7 z
            have zA : w.heap.size ≤ (w7.alloc (.cells #[.int .i64 z] 2)).heap.size := by rw [World.size_alloc]; have := gr7.size; omega
            have SA := s7.alloc' (.cells #[.int .i64 z] 2)
            have GA : w.grownBy (w7.alloc (.cells #[.int .i64 z] 2)) (some g) := grown_tr gr7 (World.grownBy_alloc w7 _ _)
            have LA := SA.lt'
            go_wp2_with (at_builtin; refine wp_appI rfl (.tmp 32) (.tmp 36) rfl w.heap.size _ _ xs.length 1 xs [z] rfl (o7.alloc _) rfl hst (by omega) zA ?_; intro v9 w9 hown9 hgr9 hat9)
            go_ret
            have hlt := fun k hk => (o7.lt k hk).1
            exact ⟨_, xs ++ [z], rfl, by simp; omega, by simpa using hown9, (src_keep SA hgr9 (fun n hn => Nat.lt_of_lt_of_le hg0 (hlt n hn)) LA).mono (by omega), grown_behind GA hgr9 hlt⟩
          have n0 : (b == 0) = false := by simp [e0]
          by_cases e1 : b = 1
          · subst e1
            have S7 := s6.alloc' (.cells #[] 2)
            have G7 := grown_alloc gr6 (.cells #[] 2)
            have O7 := own_empty w6 (base := w.heap.size) gr6.size
            clear s6 o6 gr6
            go_wp2_with fail
            apply Calls.mono
            · with_reducible exact pick_any g (m + 16 + 2) 2 _ S7 (by omega) (by omega) (by omega)
            rintro _ w8 ⟨L0, rfl, ⟨l0, l1⟩, s8, g8⟩
            obtain ⟨L, rfl⟩ := Int.eq_ofNat_of_zero_le l0
            have o8 := own_keep O7 g8 hg0
            have gr8 := grown_tr G7 g8
            clear S7 G7 O7 g8
            go_wp2_with fail
            go_loopg [3, 5] (60 + L) (fun k v i wr => RmR w g (m + 16 + 4) (60 + L) k v i wr)
            case atStart => exact ⟨[], by go_num, ⟨Nat.le_refl _, by simp⟩, o8, s8, gr8⟩
            case round =>
              obtain ⟨ys, rfl, ⟨hk1, hk2⟩, hown, hsrc, hgr⟩ := hrel
              have hsz := hgr.size
              clear o8 s8 gr8
              cases gk with
              | zero =>
                go_wp2
                go_ret
                exact ⟨_, ys, rfl, by omega, hown, hsrc.mono (by omega), hgr⟩
              | succ gk =>
                have hkp : (0 : Int) < ((gk + 1 : Nat) : Int) := by omega
                have hst := hrl wr 1
                have zA : w.heap.size ≤ (wr.alloc (.cells #[.int .i64 1] 2)).heap.size := by rw [World.size_alloc]; have := hgr.size; omega
                have SA := hsrc.alloc' (.cells #[.int .i64 1] 2)
                have GA : w.grownBy (wr.alloc (.cells #[.int .i64 1] 2)) (some g) := grown_tr hgr (World.grownBy_alloc wr _ _)
                have LA := SA.lt'
                go_wp2_with (at_builtin; refine wp_appI rfl (.tmp 48) (.tmp 49) rfl w.heap.size _ _ ys.length 1 ys [1] rfl (hown.alloc _) rfl hst (by omega) zA ?_; intro v9 w9 hown9 hgr9 hat9)
                go_roundg gk
                case measure => omega
                case rel =>
                  have hlt := fun k hk => (hown.lt k hk).1
                  refine ⟨ys ++ [1], by go_num, ⟨by omega, by simp; omega⟩, by simpa using hown9, (src_keep SA hgr9 (fun n hn => Nat.lt_of_lt_of_le hg0 (hlt n hn)) LA).mono (by omega), grown_behind GA hgr9 hlt⟩
          have n1 : (b == 1) = false := by simp [e1]
          go_wp2
          go_ret
          exact ⟨_, xs, rfl, by omega, o6, s6.mono (by omega), gr6⟩
        · have c0 : w5.cell? ⟨g3, 0, none⟩ = (ints xs)[0]? := o5'.cellAt 0 (by omega)
          obtain ⟨x0, hx0⟩ := get_ex (l := xs) (k := 0) (by omega)
          rw [ints_get hx0] at c0
          have f0 : w5.frozen? ⟨g3, 0, none⟩ = false := o5'.frozenAt 0
          have ost := (o5'.stored 0 (.int .i64 0)).1
          have zlen : (xs.set 0 0).length = xs.length := by simp
          rw [show (ints xs).set 0 (.int .i64 0) = ints (xs.set 0 0) by simp [ints]] at ost
          have sst := src_set1 s5 (show g < g3 by omega) 0 (.int .i64 0)
          have gst := grown_set1b gr5 (show w.heap.size ≤ g3 by omega) 0 (.int .i64 0)
          have hpos : 0 < xs.length := by omega
          have zg3 : g3 < w5.heap.size := by have := (o5'.lt g3 rfl).2; omega
          clear o5' s5 gr5 hx0 hg32 h1 hnc
          go_wp2_with fail
          rw [← zlen] at ost
          generalize w5.setCell ⟨g3, 0, none⟩ (.int .i64 0) = W5 at *
          generalize hys : xs.set 0 0 = qs at *
          rw [← zlen]
          have hyl : qs.length ≤ 6 := by omega
          clear hys zlen h1' hpos c0 f0 zg3 hxl xs
          apply Calls.mono
          · with_reducible exact pick_any g (m + 16) 20 _ sst (by omega) (by omega) (by omega)
          rintro _ w6 ⟨b, rfl, ⟨b0, b1⟩, s6, g6⟩
          have o6 := own_keep ost g6 hg0
          have gr6 := grown_tr gst g6
          clear sst ost gst g6
          by_cases e0 : b = 0
          · subst e0
            have hL := World.ownsRow_lit (base := 0) (e := 2) (size := 1) w6 #[.int .i64 (-1), .int .i64 0, .int .i64 1000000000, .int .i64 1000000001] 4 (Nat.zero_le _) (by simp [maxLen]) (by simp)
            have kA := among_any g (m + 16 + 2) _ 4 [-1, 0, 1000000000, 1000000001] _ (s6.alloc' _) (by omega) (Rs.of_own hL) (fun e => by have e : some g = some w6.heap.size := e; injection e with e; have := s6.lt'; omega) (by omega) (by omega)
            have o6' := o6.alloc (.cells #[.int .i64 (-1), .int .i64 0, .int .i64 1000000000, .int .i64 1000000001] 2)
            have gr6' := grown_alloc gr6 (.cells #[.int .i64 (-1), .int .i64 0, .int .i64 1000000000, .int .i64 1000000001] 2)
            clear hL o6 gr6
            go_wp2_with fail
            apply Calls.mono
            · with_reducible exact kA
            rintro _ w7 ⟨z, rfl, hz, s7, g7⟩
            have o7 := own_keep o6' g7 hg0
            have gr7 := grown_tr gr6' g7
            clear kA hz o6' gr6' g7 s6
            have hst := hrl w7 z
            have zA : w.heap.size ≤ (w7.alloc (.cells #[.int .i64 z] 2)).heap.size := by rw [World.size_alloc]; have := gr7.size; omega
            have SA := s7.alloc' (.cells #[.int .i64 z] 2)
            have GA : w.grownBy (w7.alloc (.cells #[.int .i64 z] 2)) (some g) := grown_tr gr7 (World.grownBy_alloc w7 _ _)
            have LA := SA.lt'
            go_wp2_with (at_builtin; refine wp_appI rfl (.tmp 32) (.tmp 36) rfl w.heap.size _ _ qs.length 1 qs [z] rfl (o7.alloc _) rfl hst (by omega) zA ?_; intro v9 w9 hown9 hgr9 hat9)
            go_ret
            have hlt := fun k hk => (o7.lt k hk).1
            exact ⟨_, qs ++ [z], rfl, by simp; omega, by simpa using hown9, (src_keep SA hgr9 (fun n hn => Nat.lt_of_lt_of_le hg0 (hlt n hn)) LA).mono (by omega), grown_behind GA hgr9 hlt⟩
          have n0 : (b == 0) = false := by simp [e0]
          by_cases e1 : b = 1
          · subst e1
            have S7 := s6.alloc' (.cells #[] 2)
            have G7 := grown_alloc gr6 (.cells #[] 2)
            have O7 := own_empty w6 (base := w.heap.size) gr6.size
            clear s6 o6 gr6
            go_wp2_with fail
            apply Calls.mono
            · with_reducible exact pick_any g (m + 16 + 2) 2 _ S7 (by omega) (by omega) (by omega)
            rintro _ w8 ⟨L0, rfl, ⟨l0, l1⟩, s8, g8⟩
            obtain ⟨L, rfl⟩ := Int.eq_ofNat_of_zero_le l0
            have o8 := own_keep O7 g8 hg0
            have gr8 := grown_tr G7 g8
            clear S7 G7 O7 g8
            go_wp2_with fail
            go_loopg [3, 5] (60 + L) (fun k v i wr => RmR w g (m + 16 + 4) (60 + L) k v i wr)
            case atStart => exact ⟨[], by go_num, ⟨Nat.le_refl _, by simp⟩, o8, s8, gr8⟩
            case round =>
              obtain ⟨ys, rfl, ⟨hk1, hk2⟩, hown, hsrc, hgr⟩ := hrel
              have hsz := hgr.size
              clear o8 s8 gr8
              cases gk with
              | zero =>
                go_wp2
                go_ret
                exact ⟨_, ys, rfl, by omega, hown, hsrc.mono (by omega), hgr⟩
              | succ gk =>
                have hkp : (0 : Int) < ((gk + 1 : Nat) : Int) := by omega
                have hst := hrl wr 1
                have zA : w.heap.size ≤ (wr.alloc (.cells #[.int .i64 1] 2)).heap.size := by rw [World.size_alloc]; have := hgr.size; omega
                have SA := hsrc.alloc' (.cells #[.int .i64 1] 2)
                have GA : w.grownBy (wr.alloc (.cells #[.int .i64 1] 2)) (some g) := grown_tr hgr (World.grownBy_alloc wr _ _)
                have LA := SA.lt'
                go_wp2_with (at_builtin; refine wp_appI rfl (.tmp 48) (.tmp 49) rfl w.heap.size _ _ ys.length 1 ys [1] rfl (hown.alloc _) rfl hst (by omega) zA ?_; intro v9 w9 hown9 hgr9 hat9)
                go_roundg gk
                case measure => omega
                case rel =>
                  have hlt := fun k hk => (hown.lt k hk).1
                  refine ⟨ys ++ [1], by go_num, ⟨by omega, by simp; omega⟩, by simpa using hown9, (src_keep SA hgr9 (fun n hn => Nat.lt_of_lt_of_le hg0 (hlt n hn)) LA).mono (by omega), grown_behind GA hgr9 hlt⟩
          have n1 : (b == 1) = false := by simp [e1]
          go_wp2
          go_ret
          exact ⟨_, qs, rfl, by omega, o6, s6.mono (by omega), gr6⟩
      · obtain ⟨a3, c3, rfl⟩ := own_sliceR hown
        have h1' : ¬ ((1 : Int) < (xs.length : Int)) := by omega
        go_wp2_with fail
        apply Calls.mono
        · with_reducible exact pick_any g (m + 14) 20 _ hsrc2 (by omega) (by omega) (by omega)
        rintro _ w6 ⟨b, rfl, ⟨b0, b1⟩, s6, g6⟩
        have o6 := own_keep hown g6 hg0
        have gr6 := grown_tr hgr g6
        clear hsrc2 hown hgr g6
        by_cases e0 : b = 0
        · subst e0
          have hL := World.ownsRow_lit (base := 0) (e := 2) (size := 1) w6 #[.int .i64 (-1), .int .i64 0, .int .i64 1000000000, .int .i64 1000000001] 4 (Nat.zero_le _) (by simp [maxLen]) (by simp)
          have kA := among_any g (m + 14 + 2) _ 4 [-1, 0, 1000000000, 1000000001] _ (s6.alloc' _) (by omega) (Rs.of_own hL) (fun e => by have e : some g = some w6.heap.size := e; injection e with e; have := s6.lt'; omega) (by omega) (by omega)
          have o6' := o6.alloc (.cells #[.int .i64 (-1), .int .i64 0, .int .i64 1000000000, .int .i64 1000000001] 2)
          have gr6' := grown_alloc gr6 (.cells #[.int .i64 (-1), .int .i64 0, .int .i64 1000000000, .int .i64 1000000001] 2)
          clear hL o6 gr6
          go_wp2_with fail
          apply Calls.mono
          · with_reducible exact kA
          rintro _ w7 ⟨z, rfl, hz, s7, g7⟩
          have o7 := own_keep o6' g7 hg0
          have gr7 := grown_tr gr6' g7
          clear kA hz o6' gr6' g7 s6
          have hst := hrl w7 z
          have zA : w.heap.size ≤ (w7.alloc (.cells #[.int .i64 z] 2)).heap.size := by rw [World.size_alloc]; have := gr7.size; omega
          have SA := s7.alloc' (.cells #[.int .i64 z] 2)
          have GA : w.grownBy (w7.alloc (.cells #[.int .i64 z] 2)) (some g) := grown_tr gr7 (World.grownBy_alloc w7 _ _)
          have LA := SA.lt'
          go_wp2_with (at_builtin; refine wp_appI rfl (.tmp 32) (.tmp 36) rfl w.heap.size _ _ xs.length 1 xs [z] rfl (o7.alloc _) rfl hst (by omega) zA ?_; intro v9 w9 hown9 hgr9 hat9)
          go_ret
          have hlt := fun k hk => (o7.lt k hk).1
          exact ⟨_, xs ++ [z], rfl, by simp; omega, by simpa using hown9, (src_keep SA hgr9 (fun n hn => Nat.lt_of_lt_of_le hg0 (hlt n hn)) LA).mono (by omega), grown_behind GA hgr9 hlt⟩
        have n0 : (b == 0) = false := by simp [e0]
        by_cases e1 : b = 1
        · subst e1
          have S7 := s6.alloc' (.cells #[] 2)
          have G7 := grown_alloc gr6 (.cells #[] 2)
          have O7 := own_empty w6 (base := w.heap.size) gr6.size
          clear s6 o6 gr6
          go_wp2_with fail
          apply Calls.mono
          · with_reducible exact pick_any g (m + 14 + 2) 2 _ S7 (by omega) (by omega) (by omega)
          rintro _ w8 ⟨L0, rfl, ⟨l0, l1⟩, s8, g8⟩
          obtain ⟨L, rfl⟩ := Int.eq_ofNat_of_zero_le l0
          have o8 := own_keep O7 g8 hg0
          have gr8 := grown_tr G7 g8
          clear S7 G7 O7 g8
          go_wp2_with fail
          go_loopg [3, 5] (60 + L) (fun k v i wr => RmR w g (m + 14 + 4) (60 + L) k v i wr)
          case atStart => exact ⟨[], by go_num, ⟨Nat.le_refl _, by simp⟩, o8, s8, gr8⟩
          case round =>
            obtain ⟨ys, rfl, ⟨hk1, hk2⟩, hown, hsrc, hgr⟩ := hrel
            have hsz := hgr.size
            clear o8 s8 gr8
            cases gk with
            | zero =>
              go_wp2
              go_ret
              exact ⟨_, ys, rfl, by omega, hown, hsrc.mono (by omega), hgr⟩
            | succ gk =>
              have hkp : (0 : Int) < ((gk + 1 : Nat) : Int) := by omega
              have hst := hrl wr 1
              have zA : w.heap.size ≤ (wr.alloc (.cells #[.int .i64 1] 2)).heap.size := by rw [World.size_alloc]; have := hgr.size; omega
              have SA := hsrc.alloc' (.cells #[.int .i64 1] 2)
              have GA : w.grownBy (wr.alloc (.cells #[.int .i64 1] 2)) (some g) := grown_tr hgr (World.grownBy_alloc wr _ _)
              have LA := SA.lt'
              go_wp2_with (at_builtin; refine wp_appI rfl (.tmp 48) (.tmp 49) rfl w.heap.size _ _ ys.length 1 ys [1] rfl (hown.alloc _) rfl hst (by omega) zA ?_; intro v9 w9 hown9 hgr9 hat9)
              go_roundg gk
              case measure => omega
              case rel =>
                have hlt := fun k hk => (hown.lt k hk).1
                refine ⟨ys ++ [1], by go_num, ⟨by omega, by simp; omega⟩, by simpa using hown9, (src_keep SA hgr9 (fun n hn => Nat.lt_of_lt_of_le hg0 (hlt n hn)) LA).mono (by omega), grown_behind GA hgr9 hlt⟩
        have n1 : (b == 1) = false := by simp [e1]
        go_wp2
        go_ret
        exact ⟨_, xs, rfl, by omega, o6, s6.mono (by omega), gr6⟩
end Go.Proofs.YtlmmpeeacjbobaaGreatDoor
