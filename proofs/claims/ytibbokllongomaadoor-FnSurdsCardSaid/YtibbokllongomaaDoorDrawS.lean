/-
  The reference draws plain surds.
-/
import Derived.Test.YtibbokllongomaaDoorDraw
import Derived.Test.YtibbokllongomaaDoorSurd
namespace Go.Proofs.YtibbokllongomaaDoor
open Go.RowKit

/-- A draw returned a plain surd. -/
def DrewS (w : World) (g m : Nat) (e : Ending) (w' : World) : Prop := ∃ p d q : Int, e = .returned (.agg #[.int .i64 p, .int .i64 d, .int .i64 q]) ∧ okS p d q = true ∧ (2 ≤ d ∧ d ≤ 702) ∧ (-20 ≤ p ∧ p ≤ 20) ∧ (-40 ≤ q ∧ q ≤ 40) ∧ Src w' g m ∧ w.grownBy w' (some g)
def DsR (w : World) (g m : Nat) (n : Int) (k : Nat) (vq vk : Value) (wr : World) : Prop :=
  ∃ (q : Int) (t : Nat), t ≤ k ∧ t ≤ 7 ∧ vq = .int .i64 q ∧ vk = .int .i64 (t : Int) ∧ (1 ≤ q ∧ q ≤ 40) ∧ q ∣ n ∧ Src wr g (m + (7 - t) * 2) ∧ w.grownBy wr (some g)
theorem okS_of {p d q : Int} (h1 : 2 ≤ d) (h2 : d ≤ 702) (h3 : sqB d = false) (h4 : -20 ≤ p) (h5 : p ≤ 20) (h6 : q ≠ 0) (h7 : -40 ≤ q) (h8 : q ≤ 40) (h9 : q ∣ d - p * p) : okS p d q = true := by
  have k1 : inB d 2 1000000 = true := inB_iff.2 ⟨by omega, by omega⟩
  have k2 : inB p (-1000000) 1000000 = true := inB_iff.2 ⟨by omega, by omega⟩
  have k3 : inB q (-1000000) 1000000 = true := inB_iff.2 ⟨by omega, by omega⟩
  have k4 : (d - p * p).tmod q = 0 := Int.tmod_eq_zero_of_dvd h9
  have k5 : (q != 0) = true := by simpa using h6
  simp [okS, k1, k2, k3, k4, k5, h3]
set_option maxHeartbeats 2000000 in
theorem drawS_any (g m : Nat) (w : World) (h : Src w g m) (hm : m ≤ 100000) : Calls Tryd.prog 60 #[.pointer (some ⟨g, 0, none⟩)] w (DrewS w g (m + 100)) := by
  have hsz : g < w.heap.size := by obtain ⟨A, n, c, i, s, h1, _⟩ := h; exact h1.lt
  have h0 : Src (w.alloc (.cells #[.int .i64 0, .int .i64 0, .int .i64 0] 28)) g m := h.below ((Below.refl _ _).alloc (Nat.le_refl _) _)
  go_enter Tryd.func60, Tryd.ntmps60
  go_wp2_with fail
  apply Calls.mono
  · with_reducible exact drawD_any g m _ h0 (by omega)
  rintro _ w1 ⟨d, rfl, ⟨hd1, hd2, hd3⟩, s1, g1⟩
  go_wp2_with fail
  apply Calls.mono
  · with_reducible exact pick_any g (m + 6) 41 _ s1 (by omega) (by omega) (by omega)
  rintro _ w2 ⟨b, rfl, ⟨b0, b1⟩, s2, g2⟩
  have m1 : 0 ≤ (b - 20) * (b - 20) ∧ (b - 20) * (b - 20) ≤ 400 := by
    have e : (b - 20) * (b - 20) = (((b - 20).natAbs * (b - 20).natAbs : Nat) : Int) := by rw [Int.natAbs_mul_self]
    have := Nat.mul_le_mul (show (b - 20).natAbs ≤ 20 by omega) (show (b - 20).natAbs ≤ 20 by omega)
    omega
  obtain ⟨n, hn⟩ : ∃ n : Int, n = ((d - (b - 20) * (b - 20)).natAbs : Int) := ⟨_, rfl⟩
  have kS := fun w => l02Size_any (d - (b - 20) * (b - 20)) (by omega) (by omega) w
  rw [← hn] at kS
  have hn0 : 0 ≤ n ∧ n ≤ 1102 := by omega
  have HN := Lib.hid hn
  clear hn
  go_wp2_with fail
  apply Calls.mono
  · with_reducible exact kS _
  rintro _ w3 ⟨rfl, hb_w3⟩
  have s3 := s2.below hb_w3
  have g3 := below_grown hb_w3 (some g)
  go_wp2_with fail
  apply Calls.mono
  · with_reducible exact pick_any g (m + 6 + 2) 8 _ s3 (by omega) (by omega) (by omega)
  rintro _ w4 ⟨k, rfl, ⟨k0, k1⟩, s4, g4⟩
  have gA := grown_tr (grown_tr (grown_tr g1 g2) g3) g4
  obtain ⟨K, rfl⟩ := Int.eq_ofNat_of_zero_le k0
  clear kS s1 s2 s3 g1 g2 g3 g4 hb_w3 h h0
  go_wp2_with fail
  go_loopg [6, 7] K (DsR w4 g (m + 6 + 2 + 2) n)
  case atStart => exact ⟨1, K, by omega, by omega, rfl, rfl, ⟨by omega, by omega⟩, Int.one_dvd _, s4.mono (by omega), World.grownBy.refl _ _⟩
  case round =>
    obtain ⟨q, t, ht, ht7, rfl, rfl, ⟨q1, q2⟩, hdv, sr, gr⟩ := hrel
    have HDV := Lib.hid hdv
    clear hdv
    by_cases ht0 : 0 < t
    · have ht1 : (0 : Int) < (t : Int) := by omega
      go_wp2_with fail
      apply Calls.mono
      · with_reducible exact pick_any g _ 40 _ sr (by omega) (by omega) (by omega)
      rintro _ w5 ⟨x, rfl, ⟨x0, x1⟩, s5, g5⟩
      have hx0 : 1 + x ≠ 0 := by omega
      have HX := Lib.hid hx0
      by_cases hmod : n % (1 + x) = 0
      · have hme : (n % (1 + x) == 0) = true := by simpa using hmod
        have HM := Lib.hid hmod
        clear hmod
        go_wp2
        go_roundg (gk - 1)
        case measure => omega
        case rel => exact ⟨1 + x, t - 1, by omega, by omega, rfl, by first | go_num | (congr 1; omega), ⟨by omega, by omega⟩, Int.dvd_of_emod_eq_zero HM.out, s5.mono (by omega), grown_tr gr g5⟩
      · have hme : (n % (1 + x) == 0) = false := by simpa using hmod
        clear hmod
        go_wp2
        go_roundg (gk - 1)
        case measure => omega
        case rel => exact ⟨q, t - 1, by omega, by omega, rfl, by first | go_num | (congr 1; omega), ⟨by omega, by omega⟩, HDV.out, s5.mono (by omega), grown_tr gr g5⟩
    · obtain rfl : t = 0 := by omega
      have gB := grown_tr gA gr
      have hqd : q ∣ d - (b - 20) * (b - 20) := by
        have := HDV.out
        rw [HN.out] at this
        exact Int.dvd_natAbs.1 this
      have k1 := okS_of hd1 hd2 hd3 (p := b - 20) (q := q) (by omega) (by omega) (by omega) (by omega) (by omega) hqd
      have k2 := okS_of hd1 hd2 hd3 (p := b - 20) (q := -q) (by omega) (by omega) (by omega) (by omega) (by omega) (Int.neg_dvd.2 hqd)
      clear hqd
      have K1 := Lib.hid k1
      have K2 := Lib.hid k2
      clear k1 k2
      have gC : ∀ w6, wr.grownBy w6 (some g) → w.grownBy w6 (some g) := fun w6 h => grown_tr (grown_tr (below_grown ((Below.refl w.heap.size w).alloc (Nat.le_refl _) _) (some g)) gB) h
      have hne : w.heap.size ≠ g := by omega
      have hBo : ∀ w6, wr.grownBy w6 (some g) → Blk w6 w.heap.size 28 #[.int .i64 0, .int .i64 0, .int .i64 0] := fun w6 h => (Blk.new w _ _).grown (grown_tr gB h) (by intro e; injection e with e; exact hne e)
      have GC := Lib.hid gC
      have HBO := Lib.hid hBo
      clear gC hBo gA gB gr
      go_wp2_with fail
      apply Calls.mono
      · with_reducible exact one_any g _ 4 _ sr (by omega) (by omega) (by omega)
      rintro _ w6 ⟨o, rfl, s6, g6⟩
      have hB := HBO.out w6 g6
      have lB := hB.lt
      have v0 : w6.cell? ⟨w.heap.size, 0, none⟩ = some (.int .i64 0) := hB.cell 0
      have v1 : w6.cell? ⟨w.heap.size, 1, none⟩ = some (.int .i64 0) := hB.cell 1
      have v2 : w6.cell? ⟨w.heap.size, 2, none⟩ = some (.int .i64 0) := hB.cell 2
      have v3 : w6.frozen? ⟨w.heap.size, 0, none⟩ = false := hB.frozen 0
      have v4 : w6.frozen? ⟨w.heap.size, 1, none⟩ = false := hB.frozen 1
      have v5 : w6.frozen? ⟨w.heap.size, 2, none⟩ = false := hB.frozen 2
      have fin : ∀ x y z : Value, Src (((w6.setCell ⟨w.heap.size, 0, none⟩ x).setCell ⟨w.heap.size, 1, none⟩ y).setCell ⟨w.heap.size, 2, none⟩ z) g (m + 100) ∧ w.grownBy (((w6.setCell ⟨w.heap.size, 0, none⟩ x).setCell ⟨w.heap.size, 1, none⟩ y).setCell ⟨w.heap.size, 2, none⟩ z) (some g) := by
        intro x y z
        have hk : ∀ b, b ≠ w.heap.size → (((w6.setCell ⟨w.heap.size, 0, none⟩ x).setCell ⟨w.heap.size, 1, none⟩ y).setCell ⟨w.heap.size, 2, none⟩ z).heap[b]? = w6.heap[b]? := fun b hb => by
          rw [Below.heap_setCell _ ⟨w.heap.size, 2, none⟩ _ b hb, Below.heap_setCell _ ⟨w.heap.size, 1, none⟩ _ b hb, Below.heap_setCell _ ⟨w.heap.size, 0, none⟩ _ b hb]
        have gw := GC.out w6 g6
        exact ⟨(s6.mono (by omega)).far (by simp) (fun b hb => hk b (by omega)), ⟨gw.os, gw.tape, gw.output, by simpa using gw.size, fun b hb hne => (hk b (by omega)).trans (gw.block b hb hne)⟩⟩
      cases o
      · go_wp2
        refine bodyPost_ret (by simp [results, Tryd.results60, go_sem, *]; try rfl) rfl ?_
        exact ⟨_, _, _, rfl, K1.out, ⟨by omega, by omega⟩, ⟨by omega, by omega⟩, ⟨by omega, by omega⟩, (fin _ _ _).1, (fin _ _ _).2⟩
      · go_wp2
        refine bodyPost_ret (by simp [results, Tryd.results60, go_sem, *]; try rfl) rfl ?_
        exact ⟨_, _, _, rfl, K2.out, ⟨by omega, by omega⟩, ⟨by omega, by omega⟩, ⟨by omega, by omega⟩, (fin _ _ _).1, (fin _ _ _).2⟩
theorem a2Surd_any (A : Option Addr) (n c : Nat) (w : World) (hn : n ≤ 100000) (hr : ByteRd w w.heap.size A n) : Calls Tryd.prog 25 #[.slice A n c] w (fun e w' => ∃ p d q : Int, e = .returned (.agg #[.int .i64 p, .int .i64 d, .int .i64 q]) ∧ okS p d q = true ∧ (2 ≤ d ∧ d ≤ 702) ∧ (-20 ≤ p ∧ p ≤ 20) ∧ (-40 ≤ q ∧ q ≤ 40) ∧ Below w.heap.size w w') := by
  have hr1 : ByteRd (w.alloc (.cells #[.int .i64 0, .int .i64 0, .int .i64 0] 28)) (w.alloc (.cells #[.int .i64 0, .int .i64 0, .int .i64 0] 28)).heap.size A n := hr.below ((Below.refl _ _).alloc (Nat.le_refl _) _)
  go_enter Tryd.func25, Tryd.ntmps25
  go_wp2_with fail
  apply Calls.mono
  · with_reducible exact from_any A n c _ hn hr1
  rintro _ w1 ⟨g, rfl, s1, b1, hg⟩
  go_wp2_with fail
  apply Calls.mono
  · with_reducible exact drawS_any g 0 _ s1 (by omega)
  rintro _ w2 ⟨p, d, q, rfl, hok, z1, z2, z3, s2, g2⟩
  have b2 := bthen b1 (grown_base hg b1.size g2) (Nat.le_refl _)
  have q2 := b2.size
  rw [World.size_alloc] at q2
  have hB : Blk w2 w.heap.size 28 #[.int .i64 0, .int .i64 0, .int .i64 0] := (Blk.new w _ _).below b2 (by simp)
  have lB := hB.lt
  have v0 : w2.cell? ⟨w.heap.size, 0, none⟩ = some (.int .i64 0) := hB.cell 0
  have v1 : w2.cell? ⟨w.heap.size, 1, none⟩ = some (.int .i64 0) := hB.cell 1
  have v2 : w2.cell? ⟨w.heap.size, 2, none⟩ = some (.int .i64 0) := hB.cell 2
  have v3 : w2.frozen? ⟨w.heap.size, 0, none⟩ = false := hB.frozen 0
  have v4 : w2.frozen? ⟨w.heap.size, 1, none⟩ = false := hB.frozen 1
  have v5 : w2.frozen? ⟨w.heap.size, 2, none⟩ = false := hB.frozen 2
  have bel : Below w.heap.size w w2 := bthen ((Below.refl _ _).alloc (Nat.le_refl _) _) b2 (by simp)
  go_wp2
  refine bodyPost_ret (by simp [results, Tryd.results25, go_sem, *]; try rfl) rfl ?_
  exact ⟨_, _, _, rfl, hok, z1, z2, z3, by repeat' (first | (with_reducible exact Below.refl _ _) | (with_reducible assumption) | (with_reducible refine Below.alloc ?_ ?_ _) | (with_reducible refine Below.drew ?_) | (with_reducible refine bdrewN ?_ _) | (with_reducible refine Below.setCell ?_ ?_ _) | (with_reducible refine bthen ?_ (by assumption) ?_) | go_size)⟩
end Go.Proofs.YtibbokllongomaaDoor
