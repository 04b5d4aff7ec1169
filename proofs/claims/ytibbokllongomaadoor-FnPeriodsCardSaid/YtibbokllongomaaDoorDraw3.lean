/-
  Draws of terms: what a drawn head and a drawn period hold.
-/
import Derived.Test.YtibbokllongomaaDoorDraw
import Derived.Test.YtibbokllongomaaDoorApp
import Derived.Test.YtibbokllongomaaDoorFp
namespace Go.Proofs.YtibbokllongomaaDoor
open Go.RowKit

theorem rs_lit1 (w : World) (x : Int) : Rs (w.alloc (.cells #[.int .i64 x] 2)) 1 (.slice (some ⟨w.heap.size, 0, none⟩) 1 1) 1 (ints [x]) :=
  Rs.of_own (World.ownsRow_lit (base := 0) w #[.int .i64 x] 1 (Nat.zero_le _) (by simp [maxLen]) (by simp))
theorem grown_own {a b c : World} {g : Nat} {r : Option Nat} (h : a.grownBy b (some g)) (k : b.grownBy c r) (hr : ∀ n, r = some n → a.heap.size ≤ n) : a.grownBy c (some g) :=
  ⟨k.os.trans h.os, k.tape.trans h.tape, k.output.trans h.output, Nat.le_trans h.size k.size, fun b hb hne => by
    have h1 := h.block b hb hne
    have h2 := k.block b (Nat.lt_of_lt_of_le hb h.size) (fun e => by have := hr b e.symm; omega)
    rw [h2, h1]⟩
theorem src_own {b c : World} {g m : Nat} {r : Option Nat} (h : Src b g m) (k : b.grownBy c r) (hr : ∀ n, r = some n → g < n) (hg : g < b.heap.size) : Src c g m :=
  h.far k.size (fun x hx => k.block x (by omega) (fun e => by have := hr x e.symm; omega))
theorem Src.lt {w : World} {g m : Nat} (h : Src w g m) : g < w.heap.size := by
  obtain ⟨A, n, c, i, s, h1, _⟩ := h
  exact h1.lt
theorem Src.alloc {w : World} {g m : Nat} (h : Src w g m) (o : Obj) : Src (w.alloc o) g m := h.below ((Below.refl _ _).alloc (Nat.le_refl _) _)
theorem own_src {w w' : World} {g base n : Nat} {e : TypeId} {v : Value} {xs : List Value} (h : w.ownsRow base e 1 v n xs) (k : w.grownBy w' (some g)) (hg : g < base) : w'.ownsRow base e 1 v n xs :=
  h.kept k (.inr (fun e => by have := (h.lt g e).1; omega))
/-- A draw returned a row of its own. -/
def DrewL (w : World) (g m : Nat) (P : List Int → Prop) (e : Ending) (w' : World) : Prop :=
  ∃ v xs, e = .returned v ∧ P xs ∧ w'.ownsRow w.heap.size 2 1 v xs.length (ints xs) ∧ Src w' g m ∧ w.grownBy w' (some g)
def hdP (xs : List Int) : Prop := (∀ t ∈ xs, -10 ≤ t ∧ t ≤ 60) ∧ ∀ t ∈ xs.drop 1, 1 ≤ t
theorem hd_snoc {xs : List Int} {t : Int} (h : hdP xs) (h1 : 1 ≤ t) (h2 : t ≤ 60) : hdP (xs ++ [t]) := by
  refine ⟨fun s hs => ?_, fun s hs => ?_⟩
  · rcases List.mem_append.1 hs with e | e
    · exact h.1 s e
    · rw [List.mem_singleton] at e; omega
  · cases xs with
    | nil => simp at hs
    | cons x xs =>
      simp only [List.cons_append, List.drop_one, List.tail_cons] at hs
      rcases List.mem_append.1 hs with e | e
      · exact h.2 s (by simpa using e)
      · rw [List.mem_singleton] at e; omega
def LdR (w : World) (g m K : Nat) (k : Nat) (v i : Value) (wr : World) : Prop :=
  ∃ xs : List Int, i = .int .i64 (k : Int) ∧ (k ≤ K ∧ xs.length + k = 1 + K) ∧ hdP xs ∧ wr.ownsRow w.heap.size 2 1 v xs.length (ints xs) ∧ Src wr g (m + 4 + 8 * (K - k)) ∧ w.grownBy wr (some g)
set_option maxHeartbeats 2000000 in
set_option maxRecDepth 100000 in
theorem l03Draw_any (g m : Nat) (w : World) (h : Src w g m) (hm : m ≤ 700000) : Calls Tryd.prog 73 #[.pointer (some ⟨g, 0, none⟩), .int .i64 6] w (DrewL w g (m + 60) (fun xs => hdP xs ∧ 1 ≤ xs.length ∧ xs.length ≤ 6)) := by
  have hg0 := h.lt
  have kP := fun m w h n hm h1 h2 => pick_any g m n w h hm h1 h2
  have kO := fun m w h n hm h1 h2 => one_any g m n w h hm h1 h2
  go_enter Tryd.func73, Tryd.ntmps73
  go_wp2_with fail
  apply Calls.mono
  · with_reducible exact kP m _ h 21 (by omega) (by omega) (by omega)
  rintro _ w1 ⟨b, rfl, ⟨b0, b1⟩, s1, g1⟩
  have hs1 := g1.size
  have hgw1 := s1.lt
  have S2 := s1.alloc (.cells #[.int .i64 (b - 10)] 2)
  have G2 : w.grownBy (w1.alloc (.cells #[.int .i64 (b - 10)] 2)) (some g) := grown_tr g1 (World.grownBy_alloc w1 _ _)
  have O2 : (w1.alloc (.cells #[.int .i64 (b - 10)] 2)).ownsRow w.heap.size 2 1 (.slice (some ⟨w1.heap.size, 0, none⟩) 1 1) 1 (ints [b - 10]) := World.ownsRow_lit w1 #[.int .i64 (b - 10)] 1 hs1 (by simp [maxLen]) (by simp)
  go_wp2_with fail
  apply Calls.mono
  · with_reducible exact kP (m + 2) _ S2 6 (by omega) (by omega) (by omega)
  rintro _ w3 ⟨K0, rfl, ⟨k0, k1⟩, s3, g3⟩
  obtain ⟨K, rfl⟩ := Int.eq_ofNat_of_zero_le k0
  have O3 := own_src O2 g3 hg0
  have G3 := grown_tr G2 g3
  clear s1 g1 S2 G2 O2 g3
  go_wp2_with fail
  go_loopg [5, 6] K (fun k v i wr => LdR w g m K k v i wr)
  case atStart => exact ⟨[b - 10], rfl, ⟨Nat.le_refl _, by simp⟩, ⟨fun t ht => by rw [List.mem_singleton] at ht; omega, fun t ht => by simp at ht⟩, O3, s3.mono (by omega), G3⟩
  case round =>
    obtain ⟨xs, rfl, ⟨hk1, hk2⟩, hP, hown, hsrc, hgr⟩ := hrel
    have hsz := hgr.size
    cases gk with
    | zero =>
      have hl : xs.length = 1 + K := by omega
      go_wp2
      go_ret
      exact ⟨_, xs, rfl, ⟨hP, by omega, by omega⟩, hown, hsrc.mono (by omega), hgr⟩
    | succ gk =>
      have hkp : (0 : Int) < ((gk + 1 : Nat) : Int) := by omega
      have hm' : m + 4 + 8 * (K - (gk + 1)) ≤ 800000 := by omega
      generalize hmm : m + 4 + 8 * (K - (gk + 1)) = mm at *
      go_wp2_with fail
      apply Calls.mono
      · with_reducible exact kP mm _ hsrc 6 (by omega) (by omega) (by omega)
      rintro _ w4 ⟨b4, rfl, ⟨b40, b41⟩, s4, g4⟩
      have o4 := own_src hown g4 hg0
      have gr4 := grown_tr hgr g4
      go_wp2_with fail
      apply Calls.mono
      · with_reducible exact kO (mm + 2) _ s4 8 (by omega) (by omega) (by omega)
      rintro _ w5 ⟨o, rfl, s5, g5⟩
      have o5 := own_src o4 g5 hg0
      have gr5 := grown_tr gr4 g5
      cases o
      · go_wp2_with fail
        apply Calls.mono
        · with_reducible exact kO (mm + 4) _ s5 3 (by omega) (by omega) (by omega)
        rintro _ w7 ⟨o7, rfl, s7, g7⟩
        have o7' := own_src o5 g7 hg0
        have gr7 := grown_tr gr5 g7
        cases o7
        · have hst := rs_lit1 w7 (1 + b4)
          have zA : w.heap.size ≤ (w7.alloc (.cells #[.int .i64 (1 + b4)] 2)).heap.size := by rw [World.size_alloc]; have := gr7.size; omega
          have SA := s7.alloc (.cells #[.int .i64 (1 + b4)] 2)
          have GA : w.grownBy (w7.alloc (.cells #[.int .i64 (1 + b4)] 2)) (some g) := grown_tr gr7 (World.grownBy_alloc w7 _ _)
          have LA := SA.lt
          go_wp2_with (at_builtin; refine wp_appI rfl (.tmp 29) (.tmp 31) rfl w.heap.size _ _ xs.length 1 xs [(1 + b4)] rfl (o7'.alloc _) rfl hst (by omega) zA ?_; intro v9 w9 hown9 hgr9 hat9)
          go_roundg gk
          case measure => omega
          case rel =>
            have hlt := fun k hk => (o7'.lt k hk).1
            refine ⟨xs ++ [(1 + b4)], by go_num, ⟨by omega, by simp; omega⟩, hd_snoc hP (by omega) (by omega), by simpa using hown9, (src_own SA hgr9 (fun n hn => Nat.lt_of_lt_of_le hg0 (hlt n hn)) LA).mono (by omega), grown_own GA hgr9 hlt⟩
        · have hst := rs_lit1 w7 1
          have zA : w.heap.size ≤ (w7.alloc (.cells #[.int .i64 1] 2)).heap.size := by rw [World.size_alloc]; have := gr7.size; omega
          have SA := s7.alloc (.cells #[.int .i64 1] 2)
          have GA : w.grownBy (w7.alloc (.cells #[.int .i64 1] 2)) (some g) := grown_tr gr7 (World.grownBy_alloc w7 _ _)
          have LA := SA.lt
          go_wp2_with (at_builtin; refine wp_appI rfl (.tmp 29) (.tmp 31) rfl w.heap.size _ _ xs.length 1 xs [1] rfl (o7'.alloc _) rfl hst (by omega) zA ?_; intro v9 w9 hown9 hgr9 hat9)
          go_roundg gk
          case measure => omega
          case rel =>
            have hlt := fun k hk => (o7'.lt k hk).1
            refine ⟨xs ++ [1], by go_num, ⟨by omega, by simp; omega⟩, hd_snoc hP (by omega) (by omega), by simpa using hown9, (src_own SA hgr9 (fun n hn => Nat.lt_of_lt_of_le hg0 (hlt n hn)) LA).mono (by omega), grown_own GA hgr9 hlt⟩
      · go_wp2_with fail
        apply Calls.mono
        · with_reducible exact kP (mm + 4) _ s5 60 (by omega) (by omega) (by omega)
        rintro _ w6 ⟨b6, rfl, ⟨b60, b61⟩, s6, g6⟩
        have o6 := own_src o5 g6 hg0
        have gr6 := grown_tr gr5 g6
        go_wp2_with fail
        apply Calls.mono
        · with_reducible exact kO (mm + 4 + 2) _ s6 3 (by omega) (by omega) (by omega)
        rintro _ w7 ⟨o7, rfl, s7, g7⟩
        have o7' := own_src o6 g7 hg0
        have gr7 := grown_tr gr6 g7
        cases o7
        · have hst := rs_lit1 w7 (1 + b6)
          have zA : w.heap.size ≤ (w7.alloc (.cells #[.int .i64 (1 + b6)] 2)).heap.size := by rw [World.size_alloc]; have := gr7.size; omega
          have SA := s7.alloc (.cells #[.int .i64 (1 + b6)] 2)
          have GA : w.grownBy (w7.alloc (.cells #[.int .i64 (1 + b6)] 2)) (some g) := grown_tr gr7 (World.grownBy_alloc w7 _ _)
          have LA := SA.lt
          go_wp2_with (at_builtin; refine wp_appI rfl (.tmp 29) (.tmp 31) rfl w.heap.size _ _ xs.length 1 xs [(1 + b6)] rfl (o7'.alloc _) rfl hst (by omega) zA ?_; intro v9 w9 hown9 hgr9 hat9)
          go_roundg gk
          case measure => omega
          case rel =>
            have hlt := fun k hk => (o7'.lt k hk).1
            refine ⟨xs ++ [(1 + b6)], by go_num, ⟨by omega, by simp; omega⟩, hd_snoc hP (by omega) (by omega), by simpa using hown9, (src_own SA hgr9 (fun n hn => Nat.lt_of_lt_of_le hg0 (hlt n hn)) LA).mono (by omega), grown_own GA hgr9 hlt⟩
        · have hst := rs_lit1 w7 1
          have zA : w.heap.size ≤ (w7.alloc (.cells #[.int .i64 1] 2)).heap.size := by rw [World.size_alloc]; have := gr7.size; omega
          have SA := s7.alloc (.cells #[.int .i64 1] 2)
          have GA : w.grownBy (w7.alloc (.cells #[.int .i64 1] 2)) (some g) := grown_tr gr7 (World.grownBy_alloc w7 _ _)
          have LA := SA.lt
          go_wp2_with (at_builtin; refine wp_appI rfl (.tmp 29) (.tmp 31) rfl w.heap.size _ _ xs.length 1 xs [1] rfl (o7'.alloc _) rfl hst (by omega) zA ?_; intro v9 w9 hown9 hgr9 hat9)
          go_roundg gk
          case measure => omega
          case rel =>
            have hlt := fun k hk => (o7'.lt k hk).1
            refine ⟨xs ++ [1], by go_num, ⟨by omega, by simp; omega⟩, hd_snoc hP (by omega) (by omega), by simpa using hown9, (src_own SA hgr9 (fun n hn => Nat.lt_of_lt_of_le hg0 (hlt n hn)) LA).mono (by omega), grown_own GA hgr9 hlt⟩
def PdR (w : World) (g m K : Nat) (k : Nat) (v i : Value) (wr : World) : Prop :=
  ∃ xs : List Int, i = .int .i64 (k : Int) ∧ (k ≤ K ∧ xs.length + k = K) ∧ (∀ t ∈ xs, 1 ≤ t ∧ t ≤ 60) ∧ wr.ownsRow w.heap.size 2 1 v xs.length (ints xs) ∧ Src wr g (m + 2 * (K - k)) ∧ w.grownBy wr (some g)
def DrewPd (w : World) (B g : Nat) (e : Ending) (w' : World) : Prop :=
  ∃ v1 v2 hs ls, e = .returned (.tuple #[v1, v2]) ∧ PdD hs ls ∧ w'.ownsRow B 2 1 v1 hs.length (ints hs) ∧ w'.ownsRow B 2 1 v2 ls.length (ints ls) ∧ w.grownBy w' (some g)
set_option maxHeartbeats 2000000 in
set_option maxRecDepth 100000 in
theorem l08DrawPeriod_any (g m : Nat) (w : World) (h : Src w g m) (hm : m ≤ 600000) : Calls Tryd.prog 37 #[.pointer (some ⟨g, 0, none⟩)] w (DrewPd w w.heap.size g) := by
  have hg0 := h.lt
  have kP := fun m w h n hm h1 h2 => pick_any g m n w h hm h1 h2
  have kO := fun m w h n hm h1 h2 => one_any g m n w h hm h1 h2
  go_enter Tryd.func37, Tryd.ntmps37
  go_wp2_with fail
  apply Calls.mono
  · with_reducible exact l03Draw_any g m _ h (by omega)
  rintro _ w1 ⟨v1, hs, rfl, ⟨⟨p1, p2⟩, p3, p4⟩, o1, s1, g1⟩
  have z1 := g1.size
  have hgw1 := s1.lt
  have O2 := own_lit00 w1 2 1
  have S2 := s1.alloc (.cells #[] 2)
  have G2 : w1.grownBy (w1.alloc (.cells #[] 2)) (some g) := World.grownBy_alloc w1 _ _
  go_wp2_with fail
  apply Calls.mono
  · with_reducible exact kP (m + 60) _ S2 4 (by omega) (by omega) (by omega)
  rintro _ w3 ⟨K0, rfl, ⟨k0, k1⟩, s3, g3⟩
  obtain ⟨K, rfl⟩ := Int.eq_ofNat_of_zero_le k0
  have O3 := own_src O2 g3 hgw1
  have G3 := grown_tr G2 g3
  clear S2 G2 O2 g3
  go_wp2_with fail
  go_loopg [5, 6] (K + 1) (fun k v i wr => PdR w1 g (m + 60 + 2) (K + 1) k v i wr)
  case atStart => exact ⟨[], by go_num, ⟨Nat.le_refl _, by simp⟩, fun t ht => by simp at ht, O3, s3.mono (by omega), G3⟩
  case round =>
    obtain ⟨xs, rfl, ⟨hk1, hk2⟩, hP, hown, hsrc, hgr⟩ := hrel
    have hsz := hgr.size
    cases gk with
    | zero =>
      have hl : xs.length = K + 1 := by omega
      have o1' := own_src o1 hgr hg0
      have gall := grown_tr g1 hgr
      go_wp2_with fail
      apply Calls.mono
      · with_reducible exact kO _ _ hsrc 3 (by omega) (by omega) (by omega)
      rintro _ w5 ⟨o, rfl, s5, g5⟩
      have ox := own_base (own_src hown g5 hgw1) z1
      have oh := own_src o1' g5 hg0
      have g15 := grown_tr gall g5
      have z5 := g15.size
      cases o
      · go_wp2
        go_ret2
        exact ⟨_, _, hs, xs, rfl, ⟨⟨by omega, by omega⟩, hP, p4, p1, p2⟩, oh, ox, g15⟩
      · go_wp2
        go_ret2
        exact ⟨_, _, [], xs, rfl, ⟨⟨by omega, by omega⟩, hP, by simp, by simp, by simp⟩, own_base (own_lit00 w5 2 1) z5, ox.alloc _, grown_tr g15 (World.grownBy_alloc w5 _ _)⟩
    | succ gk =>
      have hkp : (0 : Int) < ((gk + 1 : Nat) : Int) := by omega
      have hm' : m + 60 + 2 + 2 * (K + 1 - (gk + 1)) ≤ 800000 := by omega
      generalize hmm : m + 60 + 2 + 2 * (K + 1 - (gk + 1)) = mm at *
      go_wp2_with fail
      apply Calls.mono
      · with_reducible exact kP mm _ hsrc 6 (by omega) (by omega) (by omega)
      rintro _ w4 ⟨b4, rfl, ⟨b40, b41⟩, s4, g4⟩
      have o4 := own_src hown g4 hgw1
      have gr4 := grown_tr hgr g4
      have hst := rs_lit1 w4 (1 + b4)
      have zA : w1.heap.size ≤ (w4.alloc (.cells #[.int .i64 (1 + b4)] 2)).heap.size := by rw [World.size_alloc]; have := gr4.size; omega
      have SA := s4.alloc (.cells #[.int .i64 (1 + b4)] 2)
      have GA : w1.grownBy (w4.alloc (.cells #[.int .i64 (1 + b4)] 2)) (some g) := grown_tr gr4 (World.grownBy_alloc w4 _ _)
      have LA := SA.lt
      go_wp2_with (at_builtin; refine wp_appI rfl (.tmp 17) (.tmp 21) rfl w1.heap.size _ _ xs.length 1 xs [1 + b4] rfl (o4.alloc _) rfl hst (by omega) zA ?_; intro v9 w9 hown9 hgr9 hat9)
      go_roundg gk
      case measure => omega
      case rel =>
        have hlt := fun k hk => (o4.lt k hk).1
        refine ⟨xs ++ [1 + b4], by go_num, ⟨by omega, by simp; omega⟩, fun t ht => ?_, by simpa using hown9, (src_own SA hgr9 (fun n hn => Nat.lt_of_lt_of_le hgw1 (hlt n hn)) LA).mono (by omega), grown_own GA hgr9 hlt⟩
        rcases List.mem_append.1 ht with e | e
        · exact hP t e
        · rw [List.mem_singleton] at e; omega
theorem a2Period_any (A : Option Addr) (n c : Nat) (w : World) (hn : n ≤ 100000) (hr : ByteRd w w.heap.size A n) : Calls Tryd.prog 9 #[.slice A n c] w (fun e w' => ∃ v1 v2 hs ls, e = .returned (.tuple #[v1, v2]) ∧ PdD hs ls ∧ w'.ownsRow w.heap.size 2 1 v1 hs.length (ints hs) ∧ w'.ownsRow w.heap.size 2 1 v2 ls.length (ints ls) ∧ Below w.heap.size w w') := by
  go_enter Tryd.func9, Tryd.ntmps9
  go_wp2_with fail
  apply Calls.mono
  · with_reducible exact from_any A n c _ hn hr
  rintro _ w1 ⟨g, rfl, s1, b1, hg⟩
  go_wp2_with fail
  apply Calls.mono
  · with_reducible exact l08DrawPeriod_any g 0 _ s1 (by omega)
  rintro _ w2 ⟨v1, v2, hs, ls, rfl, hD, ho1, ho2, g2⟩
  go_wp2
  go_ret2
  exact ⟨v1, v2, hs, ls, rfl, hD, own_base ho1 b1.size, own_base ho2 b1.size, bthen b1 (grown_base hg b1.size g2) (Nat.le_refl _)⟩
end Go.Proofs.YtibbokllongomaaDoor
