/-
  The reference's source of choices: what it draws lies between its bounds, and nothing but the source itself turns.
-/
import Derived.Test.YtlmmpeeacjbobaaGreatDoorRow
import Derived.Test.YtlmmpeeacjbobaaGreatDoorRoot
import Derived.OpenShut
import Derived.Laws.BitsAllLaws
namespace Go.Proofs.YtlmmpeeacjbobaaGreatDoor
open Go.RowKit

/-- The bytes of a slice can be read, and lie in a block below g. -/
def ByteRd (w : World) (g : Nat) (A : Option Addr) (n : Nat) : Prop := n = 0 ∨ ∃ gb o, A = some ⟨gb, o, none⟩ ∧ gb < w.heap.size ∧ gb < g ∧ ∀ j, j < n → ∃ b : Int, (0 ≤ b ∧ b ≤ 255) ∧ w.cell? ⟨gb, o + j, none⟩ = some (.int .u8 b)
/-- Block g is a source that has been asked m times at most. -/
def Src (w : World) (g : Nat) (m : Nat) : Prop := ∃ (A : Option Addr) (n c : Nat) (i s : Int), Blk w g 68 #[.slice A n c, .int .i64 i, .int .u64 s] ∧ n ≤ 100000 ∧ (0 ≤ i ∧ i ≤ m) ∧ (0 ≤ s ∧ s < 18446744073709551616) ∧ ByteRd w g A n
theorem below_grown {w w' : World} (h : Below w.heap.size w w') (row : Option Nat) : w.grownBy w' row := ⟨h.os, h.tape, h.output, h.size, fun b hb _ => h.block b hb⟩
theorem grown_tr {a b c : World} {row : Option Nat} (h : a.grownBy b row) (k : b.grownBy c row) : a.grownBy c row := grown_trans h k
theorem ByteRd.grown {w w' : World} {g n : Nat} {A : Option Addr} (h : ByteRd w g A n) (hg : w.grownBy w' (some g)) : ByteRd w' g A n := by
  rcases h with h | ⟨gb, o, hA, hl, hne, hc⟩
  · exact .inl h
  · refine .inr ⟨gb, o, hA, Nat.lt_of_lt_of_le hl hg.size, hne, fun j hj => ?_⟩
    obtain ⟨b, hb, hcell⟩ := hc j hj
    refine ⟨b, hb, ?_⟩
    have := hg.block gb hl (by intro e; injection e with e; omega)
    rw [← hcell]
    simp only [World.cell?, this]
theorem ByteRd.below {w w' : World} {n : Nat} {A : Option Addr} (h : ByteRd w w.heap.size A n) (hb : Below w.heap.size w w') : ByteRd w' w'.heap.size A n := by
  rcases h with h | ⟨gb, o, hA, hl, hne, hc⟩
  · exact .inl h
  · have hs := hb.size
    refine .inr ⟨gb, o, hA, by omega, by omega, fun j hj => ?_⟩
    obtain ⟨b, h1, h2⟩ := hc j hj
    exact ⟨b, h1, (hb.cell (p := ⟨gb, o + j, none⟩) (by simpa using hl)).trans h2⟩
theorem Src.mono {w : World} {g m k : Nat} (h : Src w g m) (hk : m ≤ k) : Src w g k := by
  obtain ⟨A, n, c, i, s, h1, h2, h3, h4, h5⟩ := h
  exact ⟨A, n, c, i, s, h1, h2, ⟨h3.1, by omega⟩, h4, h5⟩
theorem u64_bd (e : Int) : 0 ≤ IntKind.u64.wrap e ∧ IntKind.u64.wrap e < 18446744073709551616 := by
  have := bounds_u64 (wf_wrap .u64 e)
  omega
theorem and255 (x : Int) (h0 : 0 ≤ x) (h1 : x < 18446744073709551616) : 0 ≤ bits .and .u64 x 255 ∧ bits .and .u64 x 255 ≤ 255 := by
  rw [u64_and x 255 h0 h1 (by omega) (by omega)]
  have := @Nat.and_le_right x.toNat 255
  have e : (255 : Int).toNat = 255 := rfl
  rw [e]
  omega
theorem wrap_255 (x : Int) (h0 : 0 ≤ x) (h1 : x < 18446744073709551616) : 0 ≤ wrap64 (bits .and .u64 x 255) ∧ wrap64 (bits .and .u64 x 255) ≤ 255 := by
  obtain ⟨a, b⟩ := and255 x h0 h1
  have e : wrap64 (bits .and .u64 x 255) = bits .and .u64 x 255 := by
    unfold wrap64
    omega
  rw [e]
  exact ⟨a, b⟩
theorem Src.far {w w' : World} {g m : Nat} (h : Src w g m) (hs : w.heap.size ≤ w'.heap.size) (hk : ∀ b, b ≤ g → w'.heap[b]? = w.heap[b]?) : Src w' g m := by
  obtain ⟨A, n, c, i, s, h1, h2, h3, h4, h5⟩ := h
  refine ⟨A, n, c, i, s, (hk g (Nat.le_refl _)).trans h1, h2, h3, h4, ?_⟩
  rcases h5 with h | ⟨gb, o, hA, hl, hne, hc⟩
  · exact .inl h
  · refine .inr ⟨gb, o, hA, by omega, hne, fun j hj => ?_⟩
    obtain ⟨b, hb, hcell⟩ := hc j hj
    refine ⟨b, hb, ?_⟩
    rw [← hcell]
    simp only [World.cell?, hk gb (by omega)]
theorem grown_set2 (w : World) (g i j : Nat) (u v : Value) : w.grownBy ((w.setCell ⟨g, i, none⟩ u).setCell ⟨g, j, none⟩ v) (some g) :=
  ⟨rfl, rfl, rfl, by simp, fun b hb hne => by
    have h : b ≠ g := fun e => hne (by rw [e])
    rw [Below.heap_setCell _ ⟨g, j, none⟩ _ b h, Below.heap_setCell _ ⟨g, i, none⟩ _ b h]⟩
theorem Src.below {w w' : World} {g m : Nat} (h : Src w g m) (hb : Below w.heap.size w w') : Src w' g m := by
  obtain ⟨A, n, c, i, s, h1, h2, h3, h4, h5⟩ := h
  exact ⟨A, n, c, i, s, h1.below hb h1.lt, h2, h3, h4, h5.grown (below_grown hb _)⟩
/-- A draw returned a number that is P. -/
def DrewP (w : World) (g m : Nat) (P : Int → Prop) (e : Ending) (w' : World) : Prop := ∃ b : Int, e = .returned (.int .i64 b) ∧ P b ∧ Src w' g m ∧ w.grownBy w' (some g)
set_option maxHeartbeats 2000000 in
theorem next_any' (g m : Nat) (w : World) (h : Src w g m) (hm : m ≤ 1000000) : Calls Tryz.prog 50 #[.pointer (some ⟨g, 0, none⟩)] w (DrewP w g (m + 1) (fun b => 0 ≤ b ∧ b ≤ 255)) := by
  obtain ⟨A, n, c, i, s, hB, hn, ⟨hi0, hi1⟩, ⟨hs0, hs1⟩, hrd⟩ := h
  have hi2 : i ≤ 1000000 := by omega
  have lB := hB.lt
  have c0 : w.cell? ⟨g, 0, none⟩ = some (.slice A n c) := hB.cell 0
  have c1 : w.cell? ⟨g, 1, none⟩ = some (.int .i64 i) := hB.cell 1
  have c2 : w.cell? ⟨g, 2, none⟩ = some (.int .u64 s) := hB.cell 2
  have f1 : w.frozen? ⟨g, 1, none⟩ = false := hB.frozen 1
  have f2 : w.frozen? ⟨g, 2, none⟩ = false := hB.frozen 2
  by_cases hin : i < (n : Int)
  · rcases hrd with h0 | ⟨gb, o, rfl, hgb, hne, hcell⟩
    · omega
    obtain ⟨j, rfl⟩ := Int.eq_ofNat_of_zero_le hi0
    obtain ⟨b, ⟨hb0, hb1⟩, hc⟩ := hcell j (by omega)
    have HC := Lib.hid hcell
    clear hcell
    go_enter Tryz.func50, Tryz.ntmps50
    go_wp2_with fail
    refine wp_region_calm (by kernel_rfl) (by kernel_rfl) ?_
    repeat (go_big_quiet_step ((fail)))
    refine wpQuiet_nil ?_
    intro w1 hb_w1
    obtain ⟨hc_w1, hf_w1, hs_w1⟩ := bcell hb_w1
    try simp at hs_w1
    have lB1 : g < w1.heap.size := by omega
    have lgb1 : gb < w1.heap.size := by omega
    go_wp2_with fail
    refine wp_region_calm (by kernel_rfl) (by kernel_rfl) ?_
    repeat (go_big_quiet_step ((fail)))
    refine wpQuiet_nil ?_
    intro w2 hb_w2
    obtain ⟨hc_w2, hf_w2, hs_w2⟩ := bcell hb_w2
    try simp at hs_w2
    have lB2 : g < w2.heap.size := by omega
    go_wp2_with fail
    refine wp_region_calm (by kernel_rfl) (by kernel_rfl) ?_
    repeat (go_big_quiet_step ((fail)))
    refine wpQuiet_nil ?_
    intro w3 hb_w3
    obtain ⟨hc_w3, hf_w3, hs_w3⟩ := bcell hb_w3
    try simp at hs_w3
    have lB3 : g < w3.heap.size := by omega
    have hj2 : (j : Int) + 1 ≤ (n : Int) := by omega
    go_wp2_with fail
    go_ret
    have hB3 : Blk w3 g 68 #[.slice (some ⟨gb, o, none⟩) n c, .int .i64 ((j : Int) + 1), .int .u64 (IntKind.u64.wrap (IntKind.u64.wrap (IntKind.u64.wrap (s * 6364136223846793005) + b) + 1442695040888963407))] :=
      ((((hB.below hb_w1 lB).below hb_w2 lB1).set_ 1 _).set_ 2 _).below hb_w3 (by simp; omega)
    have hg3 : w.grownBy w3 (some g) := grown_tr (grown_tr (grown_tr (below_grown hb_w1 _) (below_grown hb_w2 _)) (grown_set2 w2 g 1 2 _ _)) (below_grown hb_w3 _)
    refine ⟨b, rfl, ⟨hb0, hb1⟩, ⟨_, n, c, _, _, hB3, hn, ⟨by omega, by omega⟩, u64_bd _, ?_⟩, hg3⟩
    exact ByteRd.grown (.inr ⟨gb, o, rfl, hgb, hne, HC.out⟩) hg3
  · have hin2 : ¬ (i + 1 ≤ (n : Int)) := by omega
    go_enter Tryz.func50, Tryz.ntmps50
    go_wp2_with fail
    refine wp_region_calm (by kernel_rfl) (by kernel_rfl) ?_
    repeat (go_big_quiet_step ((fail)))
    refine wpQuiet_nil ?_
    intro w1 hb_w1
    obtain ⟨hc_w1, hf_w1, hs_w1⟩ := bcell hb_w1
    try simp at hs_w1
    have lB1 : g < w1.heap.size := by omega
    go_wp2_with fail
    refine wp_region_calm (by kernel_rfl) (by kernel_rfl) ?_
    repeat (go_big_quiet_step ((fail)))
    refine wpQuiet_nil ?_
    intro w2 hb_w2
    obtain ⟨hc_w2, hf_w2, hs_w2⟩ := bcell hb_w2
    try simp at hs_w2
    have lB2 : g < w2.heap.size := by omega
    go_wp2_with fail
    go_ret
    have hB3 : Blk w2 g 68 #[.slice A n c, .int .i64 (i + 1), .int .u64 (IntKind.u64.wrap (IntKind.u64.wrap (IntKind.u64.wrap (s * 6364136223846793005)) + 1442695040888963407))] :=
      (((hB.below hb_w1 lB).set_ 1 _).set_ 2 _).below hb_w2 (by simp; omega)
    have hg3 : w.grownBy w2 (some g) := grown_tr (grown_tr (below_grown hb_w1 _) (grown_set2 w1 g 1 2 _ _)) (below_grown hb_w2 _)
    refine ⟨_, rfl, ?_, ⟨_, n, c, _, _, hB3, hn, ⟨by omega, by omega⟩, u64_bd _, hrd.grown hg3⟩, hg3⟩
    obtain ⟨u1, u2⟩ := u64_bd (IntKind.u64.wrap (IntKind.u64.wrap (s * 6364136223846793005)) + 1442695040888963407)
    exact wrap_255 _ (by omega) (by omega)
set_option maxHeartbeats 1000000 in
theorem pick_any (g m : Nat) (n : Int) (w : World) (h : Src w g m) (hm : m ≤ 900000) (h1 : 1 ≤ n) (h2 : n ≤ 60000) : Calls Tryz.prog 33 #[.pointer (some ⟨g, 0, none⟩), .int .i64 n] w (DrewP w g (m + 2) (fun b => 0 ≤ b ∧ b < n)) := by
  have kN := fun m w h hm => next_any' g m w h hm
  by_cases e1 : n ≤ 1
  · have : n = 1 := by omega
    subst this
    go_enter Tryz.func33, Tryz.ntmps33
    go_wp2_with fail
    go_ret
    exact ⟨0, rfl, ⟨by omega, by omega⟩, h.mono (by omega), World.grownBy.refl _ _⟩
  · by_cases e2 : n > 200
    · go_enter Tryz.func33, Tryz.ntmps33
      go_wp2_with fail
      apply Calls.mono
      · with_reducible exact kN m _ h (by omega)
      rintro _ w1 ⟨b, rfl, ⟨b0, b1⟩, s1, g1⟩
      go_wp2_with fail
      apply Calls.mono
      · with_reducible exact kN (m + 1) _ s1 (by omega)
      rintro _ w2 ⟨b2, rfl, ⟨b3, b4⟩, s2, g2⟩
      have hn0 : n ≠ 0 := by omega
      have hx : 0 ≤ b * 256 + b2 := by omega
      have r1 := Int.emod_nonneg (b * 256 + b2) hn0
      have r2 := Int.emod_lt_of_pos (b * 256 + b2) (show 0 < n by omega)
      go_wp2
      go_ret
      exact ⟨_, rfl, ⟨r1, r2⟩, s2, grown_tr g1 g2⟩
    · go_enter Tryz.func33, Tryz.ntmps33
      go_wp2_with fail
      apply Calls.mono
      · with_reducible exact kN m _ h (by omega)
      rintro _ w1 ⟨b, rfl, ⟨b0, b1⟩, s1, g1⟩
      have hn0 : n ≠ 0 := by omega
      have r1 := Int.emod_nonneg b hn0
      have r2 := Int.emod_lt_of_pos b (show 0 < n by omega)
      go_wp2
      go_ret
      exact ⟨_, rfl, ⟨r1, r2⟩, s1.mono (by omega), g1⟩
def DrewB (w : World) (g m : Nat) (e : Ending) (w' : World) : Prop := ∃ b : Bool, e = .returned (.bool b) ∧ Src w' g m ∧ w.grownBy w' (some g)
theorem one_any (g m : Nat) (n : Int) (w : World) (h : Src w g m) (hm : m ≤ 900000) (h1 : 1 ≤ n) (h2 : n ≤ 60000) : Calls Tryz.prog 31 #[.pointer (some ⟨g, 0, none⟩), .int .i64 n] w (DrewB w g (m + 2)) := by
  go_enter Tryz.func31, Tryz.ntmps31
  go_wp2_with fail
  apply Calls.mono
  · with_reducible exact pick_any g m n _ h hm h1 h2
  rintro _ w1 ⟨b, rfl, ⟨b0, b1⟩, s1, g1⟩
  go_wp2
  go_ret
  exact ⟨_, rfl, s1, g1⟩
theorem from_any (A : Option Addr) (n c : Nat) (w : World) (hn : n ≤ 100000) (hr : ByteRd w w.heap.size A n) : Calls Tryz.prog 19 #[.slice A n c] w (fun e w' => ∃ g, e = .returned (.pointer (some ⟨g, 0, none⟩)) ∧ Src w' g 0 ∧ Below w.heap.size w w' ∧ w.heap.size ≤ g) := by
  go_enter Tryz.func19, Tryz.ntmps19
  go_wp2
  go_ret
  refine ⟨w.heap.size, rfl, ⟨A, n, c, 0, 0, Blk.new w _ _, hn, ⟨by omega, by omega⟩, ⟨by omega, by omega⟩, hr.grown (World.grownBy_alloc w _ _)⟩, (Below.refl _ _).alloc (Nat.le_refl _) _, Nat.le_refl _⟩
theorem grown_base {w w' : World} {g B : Nat} (hB : B ≤ g) (hw : B ≤ w.heap.size) (h : w.grownBy w' (some g)) : Below B w w' := (Below.refl _ _).grown h hw (fun k hk => by injection hk with hk; omega)
end Go.Proofs.YtlmmpeeacjbobaaGreatDoor
