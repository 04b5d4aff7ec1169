/-
  CommonAncestor: both packages' walks.
-/
import Derived.Test.YtlmmpeeacjbobaaCb
import Derived.Deep.RegionHeld3
namespace Go.Proofs.Ytlmmpeeacjbobaa
open Go.RowKit

theorem blk_n0 (w : World) (t : TypeId) (cs : Array Value) (o1 o2 : Obj) : Blk (((w.alloc (.cells cs t)).alloc o1).alloc o2) w.heap.size t cs := ((Blk.new w t cs).alloc o1).alloc o2
theorem blk_n1 (w : World) (t : TypeId) (cs : Array Value) (o1 o2 : Obj) : Blk (((w.alloc o1).alloc (.cells cs t)).alloc o2) (w.heap.size + 1) t cs := (blk_at1' w t cs o1).alloc o2
theorem blk_n2 (w : World) (t : TypeId) (cs : Array Value) (o1 o2 : Obj) : Blk (((w.alloc o1).alloc o2).alloc (.cells cs t)) (w.heap.size + 2) t cs := blk_at2' w t cs o1 o2
theorem blk_n3 (w : World) (t : TypeId) (cs : Array Value) (o1 o2 o3 : Obj) : Blk ((((w.alloc o1).alloc o2).alloc o3).alloc (.cells cs t)) (w.heap.size + 1 + 1 + 1) t cs := by
  have h := Blk.new (((w.alloc o1).alloc o2).alloc o3) t cs
  rw [World.size_alloc, World.size_alloc, World.size_alloc] at h
  exact h
def caC (n d m e : Int) : Int × Int × Int :=
  if posT n d m e = 0 then ((faM (coL (pthL (exF 60 n d).dropLast ((exF 60 n d).getLastD 0)) (pthL (exF 60 m e).dropLast ((exF 60 m e).getLastD 0)))).1, (faM (coL (pthL (exF 60 n d).dropLast ((exF 60 n d).getLastD 0)) (pthL (exF 60 m e).dropLast ((exF 60 m e).getLastD 0)))).2, 0) else (0, 0, posT n d m e)
theorem ca_of {n d m e : Int} {i i' : List Int} {l l' : Int} (h : posT n d m e = 0) (hL : exF 60 n d = i ++ [l]) (hL' : exF 60 m e = i' ++ [l']) : caC n d m e = ((faM (coL (pthL i l) (pthL i' l'))).1, (faM (coL (pthL i l) (pthL i' l'))).2, 0) := by
  unfold caC
  rw [if_pos h, hL, hL', List.dropLast_concat, List.dropLast_concat]
  simp
theorem posT_zero {n d m e : Int} (h : posT n d m e = 0) : posC n d = 0 ∧ posC m e = 0 := by
  unfold posT at h
  unfold posC
  by_cases h1 : okF n d = true ∧ okF m e = true
  · rw [if_pos h1] at h
    by_cases h2 : 1 ≤ n ∧ 1 ≤ m
    · rw [if_pos h1.1, if_pos h2.1, if_pos h1.2, if_pos h2.2]; exact ⟨rfl, rfl⟩
    · rw [if_neg h2] at h; cases h
  · rw [if_neg h1] at h; cases h
def xsT (n m : Int) (t : Nat) : Int := if t = 0 then n else m
theorem posT_two {n d m e r : Int} (k : Nat) (hk : k = 2) (h : posT n d m e = r) : (if ∀ t, t < k → okF (xsT n m t) (xsT d e t) = true then (if ∀ t, t < k → 1 ≤ xsT n m t then (0 : Int) else 2) else 1) = r := by
  subst hk
  rw [← h]
  unfold posT
  have e0 : ∀ t, t < 2 → t = 0 ∨ t = 1 := fun t ht => by omega
  have a0 : xsT n m 0 = n := rfl
  have a1 : xsT n m 1 = m := rfl
  have c0 : xsT d e 0 = d := rfl
  have c1 : xsT d e 1 = e := rfl
  by_cases h1 : okF n d = true ∧ okF m e = true
  · rw [if_pos (fun t ht => by rcases e0 t ht with rfl | rfl; (rw [a0, c0]; exact h1.1); (rw [a1, c1]; exact h1.2)), if_pos h1]
    by_cases h2 : 1 ≤ n ∧ 1 ≤ m
    · rw [if_pos (fun t ht => by rcases e0 t ht with rfl | rfl; (rw [a0]; exact h2.1); (rw [a1]; exact h2.2)), if_pos h2]
    · rw [if_neg (fun h => h2 ⟨h 0 (by omega), h 1 (by omega)⟩), if_neg h2]
  · rw [if_neg (fun h => h1 ⟨h 0 (by omega), h 1 (by omega)⟩), if_neg h1]
set_option maxHeartbeats 4000000 in
set_option maxRecDepth 100000 in
theorem commonI_any (n d m e : Int) (w : World) : Calls Try.prog 13 #[.agg #[.int .i64 n, .int .i64 d], .agg #[.int .i64 m, .int .i64 e]] w (Ret w (.tuple #[.agg #[.int .i64 (caC n d m e).1, .int .i64 (caC n d m e).2.1], .int .i64 (caC n d m e).2.2])) := by
  obtain ⟨r, hr⟩ : ∃ r, posT n d m e = r := ⟨_, rfl⟩
  have H := Lib.hid (posT_two 2 rfl hr)
  by_cases h0 : r = 0
  · subst h0
    obtain ⟨p1, p2⟩ := posT_zero hr
    obtain ⟨hok, ⟨n1, n2⟩, d1, d2⟩ := pos_facts p1
    obtain ⟨hok', ⟨m1, m2⟩, e1, e2⟩ := pos_facts p2
    obtain ⟨i, l, hL, E⟩ := ex_all n1 n2 d1 d2
    obtain ⟨i', l', hL', E'⟩ := ex_all m1 m2 e1 e2
    have hM := ca_of hr hL hL'
    have kPa := fun w => pathTo_any n d n1 n2 d1 d2 i l hL E w
    have kPb := fun w => pathTo_any m e m1 m2 e1 e2 i' l' hL' E' w
    have okA := pth_ok E
    have okB := pth_ok E'
    rw [hM]
    generalize pthL i l = pa at *
    generalize pthL i' l' = pb at *
    have hFa := co_fa okA okB
    have kCm := fun v1 v2 w h1 h2 => commonPath_any v1 v2 pa.length pb.length pa pb w h1 h2 okA.len okB.len
    have kFa := fun v w hv => fractionAt_fa v (coL pa pb) w hv hFa
    generalize (faM (coL pa pb)).1 = X at *
    generalize (faM (coL pa pb)).2 = Y at *
    generalize faB (coL pa pb) = fb at *
    clear hM hr hL hL' E E' hok hok' p1 p2 okA okB hFa n1 n2 d1 d2 m1 m2 e1 e2
    go_enter Try.func13, Try.ntmps13
    go_wp2_with fail
    apply Calls.mono
    · with_reducible exact checkPositive_any 2 2 _ (xsT n m) (xsT d e) (by omega) (by omega) (by omega) _ (by simp) (by intro j hj; obtain rfl | rfl : j = 0 ∨ j = 1 := (by omega); exact ⟨(blk_n3 w _ _ _ _ _).cell 0, (blk_n3 w _ _ _ _ _).cell 1⟩; exact ⟨(blk_n3 w _ _ _ _ _).cell 2, (blk_n3 w _ _ _ _ _).cell 3⟩) 0 H.out
    rintro _ w1 ⟨rfl, hb_w1⟩
    obtain ⟨hc_w1, hf_w1, hs_w1⟩ := bcell hb_w1
    try simp at hs_w1
    have hz_w1_w0 : w.heap.size < w1.heap.size := by omega
    have hy_w1_w0 : w.heap.size ≤ w1.heap.size := by omega
    have hx_w1_w0 : ∀ n : Nat, w.heap.size < w1.heap.size + n := by intro n; omega
    have hv_w1_w0 : ∀ n : Nat, w.heap.size ≤ w1.heap.size + n := by intro n; omega
    have hz_w1_w1 : w.heap.size + 1 < w1.heap.size := by omega
    have hy_w1_w1 : w.heap.size + 1 ≤ w1.heap.size := by omega
    have hx_w1_w1 : ∀ n : Nat, w.heap.size + 1 < w1.heap.size + n := by intro n; omega
    have hv_w1_w1 : ∀ n : Nat, w.heap.size + 1 ≤ w1.heap.size + n := by intro n; omega
    have hz_w1_w2 : w.heap.size + 2 < w1.heap.size := by omega
    have hy_w1_w2 : w.heap.size + 2 ≤ w1.heap.size := by omega
    have hx_w1_w2 : ∀ n : Nat, w.heap.size + 2 < w1.heap.size + n := by intro n; omega
    have hv_w1_w2 : ∀ n : Nat, w.heap.size + 2 ≤ w1.heap.size + n := by intro n; omega
    have hz_w1_w3 : w.heap.size + 3 < w1.heap.size := by omega
    have hy_w1_w3 : w.heap.size + 3 ≤ w1.heap.size := by omega
    have hx_w1_w3 : ∀ n : Nat, w.heap.size + 3 < w1.heap.size + n := by intro n; omega
    have hv_w1_w3 : ∀ n : Nat, w.heap.size + 3 ≤ w1.heap.size + n := by intro n; omega
    have hA0 : Blk ((((w.alloc (.cells #[.int .i64 n, .int .i64 d] 24)).alloc (.cells #[.int .i64 m, .int .i64 e] 24)).alloc (.cells #[.int .i64 0, .int .i64 0] 24)).alloc (.cells #[.int .i64 n, .int .i64 d, .int .i64 m, .int .i64 e] 24)) (w.heap.size) 24 #[.int .i64 n, .int .i64 d] := (blk_n0 w _ _ _ _).alloc _
    have hC0 : Blk ((((w.alloc (.cells #[.int .i64 n, .int .i64 d] 24)).alloc (.cells #[.int .i64 m, .int .i64 e] 24)).alloc (.cells #[.int .i64 0, .int .i64 0] 24)).alloc (.cells #[.int .i64 n, .int .i64 d, .int .i64 m, .int .i64 e] 24)) (w.heap.size + 1) 24 #[.int .i64 m, .int .i64 e] := (blk_n1 w _ _ _ _).alloc _
    have hR0 : Blk ((((w.alloc (.cells #[.int .i64 n, .int .i64 d] 24)).alloc (.cells #[.int .i64 m, .int .i64 e] 24)).alloc (.cells #[.int .i64 0, .int .i64 0] 24)).alloc (.cells #[.int .i64 n, .int .i64 d, .int .i64 m, .int .i64 e] 24)) (w.heap.size + 2) 24 #[.int .i64 0, .int .i64 0] := (blk_n2 w _ _ _ _).alloc _
    have hA := hA0.below hb_w1 hA0.lt
    have hC := hC0.below hb_w1 hC0.lt
    have hR := hR0.below hb_w1 hR0.lt
    have bel1 : Below w.heap.size w w1 := by repeat' (first | (with_reducible exact Below.refl _ _) | (with_reducible assumption) | (with_reducible refine Below.alloc ?_ ?_ _) | (with_reducible refine Below.drew ?_) | (with_reducible refine bdrewN ?_ _) | (with_reducible refine Below.setCell ?_ ?_ _) | (with_reducible refine bthen ?_ (by assumption) ?_) | go_size)
    obtain ⟨W, hW⟩ : ∃ W, W = w1 := ⟨_, rfl⟩
    subst hW
    clear hA0 hC0 hR0 hb_w1 hc_w1 hf_w1
    have kA0 : ∀ wx, Below W.heap.size W wx → Calls Try.prog 63 #[.agg #[.int .i64 n, .int .i64 d]] wx (fun e' w' => ∃ v1, e' = .returned v1 ∧ w'.ownsRow W.heap.size 2 1 v1 pa.length (ints pa) ∧ Below W.heap.size W w') := fun wx hb => (kPa wx).mono fun e' w' ⟨v1, h1, h2, h3⟩ => (by exact ⟨v1, h1, own_base h2 hb.size, bthen hb h3 hb.size⟩)
    have kA0' : ∀ wx g, Below W.heap.size W wx → Blk wx g 24 #[.int .i64 0, .int .i64 0] → W.heap.size ≤ g → Calls Try.prog 63 #[.agg #[.int .i64 n, .int .i64 d]] wx (fun e' w' => ∃ v1, e' = .returned v1 ∧ w'.ownsRow W.heap.size 2 1 v1 pa.length (ints pa) ∧ Below W.heap.size W w' ∧ Blk w' g 24 #[.int .i64 0, .int .i64 0] ∧ W.heap.size ≤ g ∧ (w'.cell? ⟨g, 0, none⟩ = some (.int .i64 0) ∧ w'.cell? ⟨g, 1, none⟩ = some (.int .i64 0) ∧ w'.frozen? ⟨g, 0, none⟩ = false ∧ w'.frozen? ⟨g, 1, none⟩ = false) ∧ g < w'.heap.size) := fun wx g hb hN hg => (kPa wx).mono fun e' w' ⟨v1, h1, h2, h3⟩ => (by have hn := hN.below h3 hN.lt; exact ⟨v1, h1, own_base h2 hb.size, bthen hb h3 hb.size, hn, hg, ⟨hn.cell 0, hn.cell 1, hn.frozen 0, hn.frozen 1⟩, hn.lt⟩)
    have kA1 : ∀ wx v2, Below W.heap.size W wx → wx.ownsRow W.heap.size 2 1 v2 pb.length (ints pb) → Calls Try.prog 63 #[.agg #[.int .i64 n, .int .i64 d]] wx (fun e' w' => ∃ v1, e' = .returned v1 ∧ w'.ownsRow W.heap.size 2 1 v1 pa.length (ints pa) ∧ Below W.heap.size W w' ∧ w'.ownsRow W.heap.size 2 1 v2 pb.length (ints pb)) := fun wx v2 hb ho => (kPa wx).mono fun e' w' ⟨v1, h1, h2, h3⟩ => (by exact ⟨v1, h1, own_base h2 hb.size, bthen hb h3 hb.size, own_below ho h3 (Nat.le_refl _)⟩)
    have kA1' : ∀ wx v2 g, Below W.heap.size W wx → wx.ownsRow W.heap.size 2 1 v2 pb.length (ints pb) → Blk wx g 24 #[.int .i64 0, .int .i64 0] → W.heap.size ≤ g → Calls Try.prog 63 #[.agg #[.int .i64 n, .int .i64 d]] wx (fun e' w' => ∃ v1, e' = .returned v1 ∧ w'.ownsRow W.heap.size 2 1 v1 pa.length (ints pa) ∧ Below W.heap.size W w' ∧ w'.ownsRow W.heap.size 2 1 v2 pb.length (ints pb) ∧ Blk w' g 24 #[.int .i64 0, .int .i64 0] ∧ W.heap.size ≤ g ∧ (w'.cell? ⟨g, 0, none⟩ = some (.int .i64 0) ∧ w'.cell? ⟨g, 1, none⟩ = some (.int .i64 0) ∧ w'.frozen? ⟨g, 0, none⟩ = false ∧ w'.frozen? ⟨g, 1, none⟩ = false) ∧ g < w'.heap.size) := fun wx v2 g hb ho hN hg => (kPa wx).mono fun e' w' ⟨v1, h1, h2, h3⟩ => (by have hn := hN.below h3 hN.lt; exact ⟨v1, h1, own_base h2 hb.size, bthen hb h3 hb.size, own_below ho h3 (Nat.le_refl _), hn, hg, ⟨hn.cell 0, hn.cell 1, hn.frozen 0, hn.frozen 1⟩, hn.lt⟩)
    have kB0 : ∀ wx, Below W.heap.size W wx → Calls Try.prog 63 #[.agg #[.int .i64 m, .int .i64 e]] wx (fun e' w' => ∃ v1, e' = .returned v1 ∧ w'.ownsRow W.heap.size 2 1 v1 pb.length (ints pb) ∧ Below W.heap.size W w') := fun wx hb => (kPb wx).mono fun e' w' ⟨v1, h1, h2, h3⟩ => (by exact ⟨v1, h1, own_base h2 hb.size, bthen hb h3 hb.size⟩)
    have kB0' : ∀ wx g, Below W.heap.size W wx → Blk wx g 24 #[.int .i64 0, .int .i64 0] → W.heap.size ≤ g → Calls Try.prog 63 #[.agg #[.int .i64 m, .int .i64 e]] wx (fun e' w' => ∃ v1, e' = .returned v1 ∧ w'.ownsRow W.heap.size 2 1 v1 pb.length (ints pb) ∧ Below W.heap.size W w' ∧ Blk w' g 24 #[.int .i64 0, .int .i64 0] ∧ W.heap.size ≤ g ∧ (w'.cell? ⟨g, 0, none⟩ = some (.int .i64 0) ∧ w'.cell? ⟨g, 1, none⟩ = some (.int .i64 0) ∧ w'.frozen? ⟨g, 0, none⟩ = false ∧ w'.frozen? ⟨g, 1, none⟩ = false) ∧ g < w'.heap.size) := fun wx g hb hN hg => (kPb wx).mono fun e' w' ⟨v1, h1, h2, h3⟩ => (by have hn := hN.below h3 hN.lt; exact ⟨v1, h1, own_base h2 hb.size, bthen hb h3 hb.size, hn, hg, ⟨hn.cell 0, hn.cell 1, hn.frozen 0, hn.frozen 1⟩, hn.lt⟩)
    have kB1 : ∀ wx v2, Below W.heap.size W wx → wx.ownsRow W.heap.size 2 1 v2 pa.length (ints pa) → Calls Try.prog 63 #[.agg #[.int .i64 m, .int .i64 e]] wx (fun e' w' => ∃ v1, e' = .returned v1 ∧ w'.ownsRow W.heap.size 2 1 v1 pb.length (ints pb) ∧ Below W.heap.size W w' ∧ w'.ownsRow W.heap.size 2 1 v2 pa.length (ints pa)) := fun wx v2 hb ho => (kPb wx).mono fun e' w' ⟨v1, h1, h2, h3⟩ => (by exact ⟨v1, h1, own_base h2 hb.size, bthen hb h3 hb.size, own_below ho h3 (Nat.le_refl _)⟩)
    have kB1' : ∀ wx v2 g, Below W.heap.size W wx → wx.ownsRow W.heap.size 2 1 v2 pa.length (ints pa) → Blk wx g 24 #[.int .i64 0, .int .i64 0] → W.heap.size ≤ g → Calls Try.prog 63 #[.agg #[.int .i64 m, .int .i64 e]] wx (fun e' w' => ∃ v1, e' = .returned v1 ∧ w'.ownsRow W.heap.size 2 1 v1 pb.length (ints pb) ∧ Below W.heap.size W w' ∧ w'.ownsRow W.heap.size 2 1 v2 pa.length (ints pa) ∧ Blk w' g 24 #[.int .i64 0, .int .i64 0] ∧ W.heap.size ≤ g ∧ (w'.cell? ⟨g, 0, none⟩ = some (.int .i64 0) ∧ w'.cell? ⟨g, 1, none⟩ = some (.int .i64 0) ∧ w'.frozen? ⟨g, 0, none⟩ = false ∧ w'.frozen? ⟨g, 1, none⟩ = false) ∧ g < w'.heap.size) := fun wx v2 g hb ho hN hg => (kPb wx).mono fun e' w' ⟨v1, h1, h2, h3⟩ => (by have hn := hN.below h3 hN.lt; exact ⟨v1, h1, own_base h2 hb.size, bthen hb h3 hb.size, own_below ho h3 (Nat.le_refl _), hn, hg, ⟨hn.cell 0, hn.cell 1, hn.frozen 0, hn.frozen 1⟩, hn.lt⟩)
    have kC : ∀ wx v1 v2, Below W.heap.size W wx → wx.ownsRow W.heap.size 2 1 v1 pa.length (ints pa) → wx.ownsRow W.heap.size 2 1 v2 pb.length (ints pb) → Calls Try.prog 68 #[v1, v2] wx (fun e' w' => ∃ v3, e' = .returned v3 ∧ Rs w' 1 v3 (coL pa pb).length (ints (coL pa pb)) ∧ Below W.heap.size W w') := fun wx v1 v2 hb h1 h2 => (kCm v1 v2 wx (Rs.of_own h1) (Rs.of_own h2)).mono fun e' w' ⟨v3, q1, q2, q3⟩ => (by exact ⟨v3, q1, q2, bthen hb q3 hb.size⟩)
    have kD : ∀ wx v3, Below W.heap.size W wx → Rs wx 1 v3 (coL pa pb).length (ints (coL pa pb)) → Calls Try.prog 64 #[v3] wx (fun e' w' => e' = .returned (.tuple #[.agg #[.int .i64 X, .int .i64 Y], .bool fb]) ∧ Below W.heap.size W w') := fun wx v3 hb h3 => (kFa v3 wx h3).mono fun e' w' h => (by exact ⟨h.1, bthen hb h.2 hb.size⟩)
    have kC' : ∀ wx v1 v2 g, Below W.heap.size W wx → wx.ownsRow W.heap.size 2 1 v1 pa.length (ints pa) → wx.ownsRow W.heap.size 2 1 v2 pb.length (ints pb) → Blk wx g 24 #[.int .i64 0, .int .i64 0] → W.heap.size ≤ g → Calls Try.prog 68 #[v1, v2] wx (fun e' w' => ∃ v3, e' = .returned v3 ∧ Rs w' 1 v3 (coL pa pb).length (ints (coL pa pb)) ∧ Below W.heap.size W w' ∧ Blk w' g 24 #[.int .i64 0, .int .i64 0] ∧ W.heap.size ≤ g ∧ (w'.cell? ⟨g, 0, none⟩ = some (.int .i64 0) ∧ w'.cell? ⟨g, 1, none⟩ = some (.int .i64 0) ∧ w'.frozen? ⟨g, 0, none⟩ = false ∧ w'.frozen? ⟨g, 1, none⟩ = false) ∧ g < w'.heap.size) := fun wx v1 v2 g hb h1 h2 hN hg => (kCm v1 v2 wx (Rs.of_own h1) (Rs.of_own h2)).mono fun e' w' ⟨v3, q1, q2, q3⟩ => (by have hn := hN.below q3 hN.lt; exact ⟨v3, q1, q2, bthen hb q3 hb.size, hn, hg, ⟨hn.cell 0, hn.cell 1, hn.frozen 0, hn.frozen 1⟩, hn.lt⟩)
    have kD' : ∀ wx v3 g, Below W.heap.size W wx → Rs wx 1 v3 (coL pa pb).length (ints (coL pa pb)) → Blk wx g 24 #[.int .i64 0, .int .i64 0] → W.heap.size ≤ g → Calls Try.prog 64 #[v3] wx (fun e' w' => e' = .returned (.tuple #[.agg #[.int .i64 X, .int .i64 Y], .bool fb]) ∧ Below W.heap.size W w' ∧ Blk w' g 24 #[.int .i64 0, .int .i64 0] ∧ W.heap.size ≤ g ∧ (w'.cell? ⟨g, 0, none⟩ = some (.int .i64 0) ∧ w'.cell? ⟨g, 1, none⟩ = some (.int .i64 0) ∧ w'.frozen? ⟨g, 0, none⟩ = false ∧ w'.frozen? ⟨g, 1, none⟩ = false) ∧ g < w'.heap.size) := fun wx v3 g hb h3 hN hg => (kFa v3 wx h3).mono fun e' w' h => (by have hn := hN.below h.2 hN.lt; exact ⟨h.1, bthen hb h.2 hb.size, hn, hg, ⟨hn.cell 0, hn.cell 1, hn.frozen 0, hn.frozen 1⟩, hn.lt⟩)
    have KS : ∀ wx, Below W.heap.size W wx → wx.cell? ⟨w.heap.size, 0, none⟩ = some (.int .i64 n) ∧ wx.cell? ⟨w.heap.size, 1, none⟩ = some (.int .i64 d) ∧ wx.cell? ⟨w.heap.size + 1, 0, none⟩ = some (.int .i64 m) ∧ wx.cell? ⟨w.heap.size + 1, 1, none⟩ = some (.int .i64 e) := fun wx hb => by
      have g1 := hA.below hb hA.lt
      have g2 := hC.below hb hC.lt
      exact ⟨g1.cell 0, g1.cell 1, g2.cell 0, g2.cell 1⟩
    obtain ⟨l1, l2, l3, l4⟩ := KS W (Below.refl _ _)
    go_upto_region 4 with fail
    go_cut [7, 8] from 17 (fun s7 s8 wx => ∃ g7, s7 = .pointer (some ⟨g7, 0, none⟩) ∧ s8 = .bool fb ∧ Blk wx g7 24 #[.int .i64 X, .int .i64 Y] ∧ Below W.heap.size W wx ∧ W.heap.size ≤ g7)
    case first =>
      go_region_held3 (fun wx => wx.cell? ⟨w.heap.size, 0, none⟩ = some (.int .i64 n) ∧ wx.cell? ⟨w.heap.size, 1, none⟩ = some (.int .i64 d) ∧ wx.cell? ⟨w.heap.size + 1, 0, none⟩ = some (.int .i64 m) ∧ wx.cell? ⟨w.heap.size + 1, 1, none⟩ = some (.int .i64 e))
        (first | exact KS _ bx | exact KS _ (bx.alloc bx.size _) | exact KS _ ((bx.setCell (p := ⟨_, 0, none⟩) hgN _).setCell (p := ⟨_, 1, none⟩) hgN _) | exact KS _ (Below.refl _ _).drew | exact KS _ ((Below.refl _ _).alloc (Nat.le_refl _) _).drew | go_keep)
        (first
          | (go_at_call_of 63 (Value.agg #[Value.int .i64 n, Value.int .i64 d]); refine (kA1' _ vb _ (by first | exact bx | exact bx.alloc bx.size _ | exact (Below.refl _ _).drew | exact ((Below.refl _ _).alloc (Nat.le_refl _) _).drew) (by first | exact oB | exact oB.alloc _) (by first | exact hN | exact Blk.new _ _ _ | exact (Blk.new _ _ _).drew) (by first | exact hgN | exact bx.size | exact Nat.le_refl _)).mono ?_; rintro _ w2 ⟨va, rfl, oA, bx, oB, hN, hgN, ⟨n1, n2, n3, n4⟩, n5⟩)
          | (go_at_call_of 63 (Value.agg #[Value.int .i64 n, Value.int .i64 d]); refine (kA1 _ vb (by first | exact bx | exact bx.alloc bx.size _ | exact (Below.refl _ _).drew | exact ((Below.refl _ _).alloc (Nat.le_refl _) _).drew) (by first | exact oB | exact oB.alloc _)).mono ?_; rintro _ w2 ⟨va, rfl, oA, bx, oB⟩)
          | (go_at_call_of 63 (Value.agg #[Value.int .i64 n, Value.int .i64 d]); refine (kA0' _ _ (by first | exact bx | exact bx.alloc bx.size _ | exact (Below.refl _ _).drew | exact ((Below.refl _ _).alloc (Nat.le_refl _) _).drew) (by first | exact hN | exact Blk.new _ _ _ | exact (Blk.new _ _ _).drew) (by first | exact hgN | exact bx.size | exact Nat.le_refl _)).mono ?_; rintro _ w2 ⟨va, rfl, oA, bx, hN, hgN, ⟨n1, n2, n3, n4⟩, n5⟩)
          | (go_at_call_of 63 (Value.agg #[Value.int .i64 n, Value.int .i64 d]); refine (kA0 _ (by first | exact bx | exact bx.alloc bx.size _ | exact (Below.refl _ _).drew | exact ((Below.refl _ _).alloc (Nat.le_refl _) _).drew)).mono ?_; rintro _ w2 ⟨va, rfl, oA, bx⟩)
          | (go_at_call_of 63 (Value.agg #[Value.int .i64 m, Value.int .i64 e]); refine (kB1' _ va _ (by first | exact bx | exact bx.alloc bx.size _ | exact (Below.refl _ _).drew | exact ((Below.refl _ _).alloc (Nat.le_refl _) _).drew) (by first | exact oA | exact oA.alloc _) (by first | exact hN | exact Blk.new _ _ _ | exact (Blk.new _ _ _).drew) (by first | exact hgN | exact bx.size | exact Nat.le_refl _)).mono ?_; rintro _ w2 ⟨vb, rfl, oB, bx, oA, hN, hgN, ⟨n1, n2, n3, n4⟩, n5⟩)
          | (go_at_call_of 63 (Value.agg #[Value.int .i64 m, Value.int .i64 e]); refine (kB1 _ va (by first | exact bx | exact bx.alloc bx.size _ | exact (Below.refl _ _).drew | exact ((Below.refl _ _).alloc (Nat.le_refl _) _).drew) (by first | exact oA | exact oA.alloc _)).mono ?_; rintro _ w2 ⟨vb, rfl, oB, bx, oA⟩)
          | (go_at_call_of 63 (Value.agg #[Value.int .i64 m, Value.int .i64 e]); refine (kB0' _ _ (by first | exact bx | exact bx.alloc bx.size _ | exact (Below.refl _ _).drew | exact ((Below.refl _ _).alloc (Nat.le_refl _) _).drew) (by first | exact hN | exact Blk.new _ _ _ | exact (Blk.new _ _ _).drew) (by first | exact hgN | exact bx.size | exact Nat.le_refl _)).mono ?_; rintro _ w2 ⟨vb, rfl, oB, bx, hN, hgN, ⟨n1, n2, n3, n4⟩, n5⟩)
          | (go_at_call_of 63 (Value.agg #[Value.int .i64 m, Value.int .i64 e]); refine (kB0 _ (by first | exact bx | exact bx.alloc bx.size _ | exact (Below.refl _ _).drew | exact ((Below.refl _ _).alloc (Nat.le_refl _) _).drew)).mono ?_; rintro _ w2 ⟨vb, rfl, oB, bx⟩)
          | (go_at_call 68; refine (kC' _ va vb _ (by first | exact bx | exact bx.alloc bx.size _ | exact (Below.refl _ _).drew | exact ((Below.refl _ _).alloc (Nat.le_refl _) _).drew) (by first | exact oA | exact oA.alloc _) (by first | exact oB | exact oB.alloc _) (by first | exact hN | exact Blk.new _ _ _ | exact (Blk.new _ _ _).drew) (by first | exact hgN | exact bx.size | exact Nat.le_refl _)).mono ?_; rintro _ w2 ⟨vc, rfl, oC, bx, hN, hgN, ⟨n1, n2, n3, n4⟩, n5⟩)
          | (go_at_call 68; refine (kC _ va vb (by first | exact bx | exact bx.alloc bx.size _ | exact (Below.refl _ _).drew | exact ((Below.refl _ _).alloc (Nat.le_refl _) _).drew) (by first | exact oA | exact oA.alloc _) (by first | exact oB | exact oB.alloc _)).mono ?_; rintro _ w2 ⟨vc, rfl, oC, bx⟩)
          | (go_at_call 64; refine (kD' _ vc _ (by first | exact bx | exact bx.alloc bx.size _ | exact (Below.refl _ _).drew | exact ((Below.refl _ _).alloc (Nat.le_refl _) _).drew) (by first | exact oC | exact oC.alloc _) (by first | exact hN | exact Blk.new _ _ _ | exact (Blk.new _ _ _).drew) (by first | exact hgN | exact bx.size | exact Nat.le_refl _)).mono ?_; rintro _ w2 ⟨rfl, bx, hN, hgN, ⟨n1, n2, n3, n4⟩, n5⟩)
          | (go_at_call 64; refine (kD _ vc (by first | exact bx | exact bx.alloc bx.size _ | exact (Below.refl _ _).drew | exact ((Below.refl _ _).alloc (Nat.le_refl _) _).drew) (by first | exact oC | exact oC.alloc _)).mono ?_; rintro _ w2 ⟨rfl, bx⟩))
      all_goals go_wp2_with fail
      all_goals go_meet
      all_goals first | exact ⟨_, rfl, rfl, hN.set2 _ _, (bx.setCell (p := ⟨_, 0, none⟩) hgN _).setCell (p := ⟨_, 1, none⟩) hgN _, hgN⟩ | exact ⟨_, rfl, rfl, Blk.new _ _ _, bx.alloc bx.size _, bx.size⟩
    case rest =>
      obtain ⟨g7, rfl, rfl, h7, bel2, hg7⟩ := hcut
      have hR2 := hR.below bel2 hR.lt
      have bel3 := bthen bel1 bel2 bel1.size
      have d0 : wc.cell? ⟨w.heap.size + 1 + 1, 0, none⟩ = some (.int .i64 0) := hR2.cell 0
      have d1 : wc.cell? ⟨w.heap.size + 1 + 1, 1, none⟩ = some (.int .i64 0) := hR2.cell 1
      have d2 : wc.frozen? ⟨w.heap.size + 1 + 1, 0, none⟩ = false := hR2.frozen 0
      have d3 : wc.frozen? ⟨w.heap.size + 1 + 1, 1, none⟩ = false := hR2.frozen 1
      have zB := hR2.lt
      have f0 : wc.cell? ⟨g7, 0, none⟩ = some (.int .i64 X) := h7.cell 0
      have f1 : wc.cell? ⟨g7, 1, none⟩ = some (.int .i64 Y) := h7.cell 1
      have zG := h7.lt
      clear hA hC hR hR2 h7 bel1 bel2 l1 l2 l3 l4
      go_wp2
      refine bodyPost_ret (by simp [results, Try.results13, go_sem, *]; try rfl) rfl ?_
      refine ⟨by first | rfl | simp, ?_⟩
      repeat' (first | (with_reducible exact Below.refl _ _) | (with_reducible assumption) | (with_reducible refine Below.alloc ?_ ?_ _) | (with_reducible refine Below.drew ?_) | (with_reducible refine bdrewN ?_ _) | (with_reducible refine Below.setCell ?_ ?_ _) | (with_reducible refine bthen ?_ (by assumption) ?_) | go_size)
  · have hM : caC n d m e = (0, 0, r) := by unfold caC; rw [if_neg (by rw [hr]; exact h0), hr]
    rw [hM]
    have hne : (r != 0) = true := by simp [h0]
    clear hM hr h0
    go_enter Try.func13, Try.ntmps13
    go_wp2_with fail
    apply Calls.mono
    · with_reducible exact checkPositive_any 2 2 _ (xsT n m) (xsT d e) (by omega) (by omega) (by omega) _ (by simp) (by intro j hj; obtain rfl | rfl : j = 0 ∨ j = 1 := (by omega); exact ⟨(blk_n3 w _ _ _ _ _).cell 0, (blk_n3 w _ _ _ _ _).cell 1⟩; exact ⟨(blk_n3 w _ _ _ _ _).cell 2, (blk_n3 w _ _ _ _ _).cell 3⟩) r H.out
    rintro _ w1 ⟨rfl, hb_w1⟩
    obtain ⟨hc_w1, hf_w1, hs_w1⟩ := bcell hb_w1
    try simp at hs_w1
    have hz_w1_w0 : w.heap.size < w1.heap.size := by omega
    have hy_w1_w0 : w.heap.size ≤ w1.heap.size := by omega
    have hx_w1_w0 : ∀ n : Nat, w.heap.size < w1.heap.size + n := by intro n; omega
    have hv_w1_w0 : ∀ n : Nat, w.heap.size ≤ w1.heap.size + n := by intro n; omega
    have hz_w1_w1 : w.heap.size + 1 < w1.heap.size := by omega
    have hy_w1_w1 : w.heap.size + 1 ≤ w1.heap.size := by omega
    have hx_w1_w1 : ∀ n : Nat, w.heap.size + 1 < w1.heap.size + n := by intro n; omega
    have hv_w1_w1 : ∀ n : Nat, w.heap.size + 1 ≤ w1.heap.size + n := by intro n; omega
    have hz_w1_w2 : w.heap.size + 2 < w1.heap.size := by omega
    have hy_w1_w2 : w.heap.size + 2 ≤ w1.heap.size := by omega
    have hx_w1_w2 : ∀ n : Nat, w.heap.size + 2 < w1.heap.size + n := by intro n; omega
    have hv_w1_w2 : ∀ n : Nat, w.heap.size + 2 ≤ w1.heap.size + n := by intro n; omega
    have hz_w1_w3 : w.heap.size + 3 < w1.heap.size := by omega
    have hy_w1_w3 : w.heap.size + 3 ≤ w1.heap.size := by omega
    have hx_w1_w3 : ∀ n : Nat, w.heap.size + 3 < w1.heap.size + n := by intro n; omega
    have hv_w1_w3 : ∀ n : Nat, w.heap.size + 3 ≤ w1.heap.size + n := by intro n; omega
    go_wp2
    refine bodyPost_ret (by simp [results, Try.results13, go_sem, *]; try rfl) rfl ?_
    refine ⟨by first | rfl | simp, ?_⟩
    repeat' (first | (with_reducible exact Below.refl _ _) | (with_reducible assumption) | (with_reducible refine Below.alloc ?_ ?_ _) | (with_reducible refine Below.drew ?_) | (with_reducible refine bdrewN ?_ _) | (with_reducible refine Below.setCell ?_ ?_ _) | (with_reducible refine bthen ?_ (by assumption) ?_) | go_size)
set_option maxHeartbeats 4000000 in
set_option maxRecDepth 100000 in
theorem commonS_any (n d m e : Int) (w : World) : Calls Try.prog 12 #[.agg #[.int .i64 n, .int .i64 d], .agg #[.int .i64 m, .int .i64 e]] w (Ret w (.tuple #[.agg #[.int .i64 (caC n d m e).1, .int .i64 (caC n d m e).2.1], .int .i64 (caC n d m e).2.2])) := by
  obtain ⟨r, hr⟩ : ∃ r, posT n d m e = r := ⟨_, rfl⟩
  have H := Lib.hid (hr)
  by_cases h0 : r = 0
  · subst h0
    obtain ⟨p1, p2⟩ := posT_zero hr
    obtain ⟨hok, ⟨n1, n2⟩, d1, d2⟩ := pos_facts p1
    obtain ⟨hok', ⟨m1, m2⟩, e1, e2⟩ := pos_facts p2
    obtain ⟨i, l, hL, E⟩ := ex_all n1 n2 d1 d2
    obtain ⟨i', l', hL', E'⟩ := ex_all m1 m2 e1 e2
    have hM := ca_of hr hL hL'
    have kPa := fun w => l05Path_any n d n1 n2 d1 d2 i l hL E w
    have kPb := fun w => l05Path_any m e m1 m2 e1 e2 i' l' hL' E' w
    have okA := pth_ok E
    have okB := pth_ok E'
    rw [hM]
    generalize pthL i l = pa at *
    generalize pthL i' l' = pb at *
    have hFa := co_fa okA okB
    have kCm := fun v1 v2 w h1 h2 => l05Common_any v1 v2 pa.length pb.length pa pb w h1 h2 okA okB
    have kFa := fun v w hv => l05At_fa v (coL pa pb) w hv hFa
    generalize (faM (coL pa pb)).1 = X at *
    generalize (faM (coL pa pb)).2 = Y at *
    generalize faB (coL pa pb) = fb at *
    clear hM hr hL hL' E E' hok hok' p1 p2 okA okB hFa n1 n2 d1 d2 m1 m2 e1 e2
    go_enter Try.func12, Try.ntmps12
    go_wp2_with fail
    apply Calls.mono
    · with_reducible exact l05Two_any _ _ _ _ 0 H.out _
    rintro _ w1 ⟨rfl, hb_w1⟩
    obtain ⟨hc_w1, hf_w1, hs_w1⟩ := bcell hb_w1
    try simp at hs_w1
    have hz_w1_w0 : w.heap.size < w1.heap.size := by omega
    have hy_w1_w0 : w.heap.size ≤ w1.heap.size := by omega
    have hx_w1_w0 : ∀ n : Nat, w.heap.size < w1.heap.size + n := by intro n; omega
    have hv_w1_w0 : ∀ n : Nat, w.heap.size ≤ w1.heap.size + n := by intro n; omega
    have hz_w1_w1 : w.heap.size + 1 < w1.heap.size := by omega
    have hy_w1_w1 : w.heap.size + 1 ≤ w1.heap.size := by omega
    have hx_w1_w1 : ∀ n : Nat, w.heap.size + 1 < w1.heap.size + n := by intro n; omega
    have hv_w1_w1 : ∀ n : Nat, w.heap.size + 1 ≤ w1.heap.size + n := by intro n; omega
    have hz_w1_w2 : w.heap.size + 2 < w1.heap.size := by omega
    have hy_w1_w2 : w.heap.size + 2 ≤ w1.heap.size := by omega
    have hx_w1_w2 : ∀ n : Nat, w.heap.size + 2 < w1.heap.size + n := by intro n; omega
    have hv_w1_w2 : ∀ n : Nat, w.heap.size + 2 ≤ w1.heap.size + n := by intro n; omega
    have hA0 : Blk ((((w.alloc (.cells #[.int .i64 n, .int .i64 d] 24)).alloc (.cells #[.int .i64 m, .int .i64 e] 24)).alloc (.cells #[.int .i64 0, .int .i64 0] 24))) (w.heap.size) 24 #[.int .i64 n, .int .i64 d] := blk_n0 w _ _ _ _
    have hC0 : Blk ((((w.alloc (.cells #[.int .i64 n, .int .i64 d] 24)).alloc (.cells #[.int .i64 m, .int .i64 e] 24)).alloc (.cells #[.int .i64 0, .int .i64 0] 24))) (w.heap.size + 1) 24 #[.int .i64 m, .int .i64 e] := blk_n1 w _ _ _ _
    have hR0 : Blk ((((w.alloc (.cells #[.int .i64 n, .int .i64 d] 24)).alloc (.cells #[.int .i64 m, .int .i64 e] 24)).alloc (.cells #[.int .i64 0, .int .i64 0] 24))) (w.heap.size + 2) 24 #[.int .i64 0, .int .i64 0] := blk_n2 w _ _ _ _
    have hA := hA0.below hb_w1 hA0.lt
    have hC := hC0.below hb_w1 hC0.lt
    have hR := hR0.below hb_w1 hR0.lt
    have bel1 : Below w.heap.size w w1 := by repeat' (first | (with_reducible exact Below.refl _ _) | (with_reducible assumption) | (with_reducible refine Below.alloc ?_ ?_ _) | (with_reducible refine Below.drew ?_) | (with_reducible refine bdrewN ?_ _) | (with_reducible refine Below.setCell ?_ ?_ _) | (with_reducible refine bthen ?_ (by assumption) ?_) | go_size)
    obtain ⟨W, hW⟩ : ∃ W, W = w1 := ⟨_, rfl⟩
    subst hW
    clear hA0 hC0 hR0 hb_w1 hc_w1 hf_w1
    have kA0 : ∀ wx, Below W.heap.size W wx → Calls Try.prog 59 #[.agg #[.int .i64 n, .int .i64 d]] wx (fun e' w' => ∃ v1, e' = .returned v1 ∧ w'.ownsRow W.heap.size 2 1 v1 pa.length (ints pa) ∧ Below W.heap.size W w') := fun wx hb => (kPa wx).mono fun e' w' ⟨v1, h1, h2, h3⟩ => (by exact ⟨v1, h1, own_base h2 hb.size, bthen hb h3 hb.size⟩)
    have kA0' : ∀ wx g, Below W.heap.size W wx → Blk wx g 24 #[.int .i64 0, .int .i64 0] → W.heap.size ≤ g → Calls Try.prog 59 #[.agg #[.int .i64 n, .int .i64 d]] wx (fun e' w' => ∃ v1, e' = .returned v1 ∧ w'.ownsRow W.heap.size 2 1 v1 pa.length (ints pa) ∧ Below W.heap.size W w' ∧ Blk w' g 24 #[.int .i64 0, .int .i64 0] ∧ W.heap.size ≤ g ∧ (w'.cell? ⟨g, 0, none⟩ = some (.int .i64 0) ∧ w'.cell? ⟨g, 1, none⟩ = some (.int .i64 0) ∧ w'.frozen? ⟨g, 0, none⟩ = false ∧ w'.frozen? ⟨g, 1, none⟩ = false) ∧ g < w'.heap.size) := fun wx g hb hN hg => (kPa wx).mono fun e' w' ⟨v1, h1, h2, h3⟩ => (by have hn := hN.below h3 hN.lt; exact ⟨v1, h1, own_base h2 hb.size, bthen hb h3 hb.size, hn, hg, ⟨hn.cell 0, hn.cell 1, hn.frozen 0, hn.frozen 1⟩, hn.lt⟩)
    have kA1 : ∀ wx v2, Below W.heap.size W wx → wx.ownsRow W.heap.size 2 1 v2 pb.length (ints pb) → Calls Try.prog 59 #[.agg #[.int .i64 n, .int .i64 d]] wx (fun e' w' => ∃ v1, e' = .returned v1 ∧ w'.ownsRow W.heap.size 2 1 v1 pa.length (ints pa) ∧ Below W.heap.size W w' ∧ w'.ownsRow W.heap.size 2 1 v2 pb.length (ints pb)) := fun wx v2 hb ho => (kPa wx).mono fun e' w' ⟨v1, h1, h2, h3⟩ => (by exact ⟨v1, h1, own_base h2 hb.size, bthen hb h3 hb.size, own_below ho h3 (Nat.le_refl _)⟩)
    have kA1' : ∀ wx v2 g, Below W.heap.size W wx → wx.ownsRow W.heap.size 2 1 v2 pb.length (ints pb) → Blk wx g 24 #[.int .i64 0, .int .i64 0] → W.heap.size ≤ g → Calls Try.prog 59 #[.agg #[.int .i64 n, .int .i64 d]] wx (fun e' w' => ∃ v1, e' = .returned v1 ∧ w'.ownsRow W.heap.size 2 1 v1 pa.length (ints pa) ∧ Below W.heap.size W w' ∧ w'.ownsRow W.heap.size 2 1 v2 pb.length (ints pb) ∧ Blk w' g 24 #[.int .i64 0, .int .i64 0] ∧ W.heap.size ≤ g ∧ (w'.cell? ⟨g, 0, none⟩ = some (.int .i64 0) ∧ w'.cell? ⟨g, 1, none⟩ = some (.int .i64 0) ∧ w'.frozen? ⟨g, 0, none⟩ = false ∧ w'.frozen? ⟨g, 1, none⟩ = false) ∧ g < w'.heap.size) := fun wx v2 g hb ho hN hg => (kPa wx).mono fun e' w' ⟨v1, h1, h2, h3⟩ => (by have hn := hN.below h3 hN.lt; exact ⟨v1, h1, own_base h2 hb.size, bthen hb h3 hb.size, own_below ho h3 (Nat.le_refl _), hn, hg, ⟨hn.cell 0, hn.cell 1, hn.frozen 0, hn.frozen 1⟩, hn.lt⟩)
    have kB0 : ∀ wx, Below W.heap.size W wx → Calls Try.prog 59 #[.agg #[.int .i64 m, .int .i64 e]] wx (fun e' w' => ∃ v1, e' = .returned v1 ∧ w'.ownsRow W.heap.size 2 1 v1 pb.length (ints pb) ∧ Below W.heap.size W w') := fun wx hb => (kPb wx).mono fun e' w' ⟨v1, h1, h2, h3⟩ => (by exact ⟨v1, h1, own_base h2 hb.size, bthen hb h3 hb.size⟩)
    have kB0' : ∀ wx g, Below W.heap.size W wx → Blk wx g 24 #[.int .i64 0, .int .i64 0] → W.heap.size ≤ g → Calls Try.prog 59 #[.agg #[.int .i64 m, .int .i64 e]] wx (fun e' w' => ∃ v1, e' = .returned v1 ∧ w'.ownsRow W.heap.size 2 1 v1 pb.length (ints pb) ∧ Below W.heap.size W w' ∧ Blk w' g 24 #[.int .i64 0, .int .i64 0] ∧ W.heap.size ≤ g ∧ (w'.cell? ⟨g, 0, none⟩ = some (.int .i64 0) ∧ w'.cell? ⟨g, 1, none⟩ = some (.int .i64 0) ∧ w'.frozen? ⟨g, 0, none⟩ = false ∧ w'.frozen? ⟨g, 1, none⟩ = false) ∧ g < w'.heap.size) := fun wx g hb hN hg => (kPb wx).mono fun e' w' ⟨v1, h1, h2, h3⟩ => (by have hn := hN.below h3 hN.lt; exact ⟨v1, h1, own_base h2 hb.size, bthen hb h3 hb.size, hn, hg, ⟨hn.cell 0, hn.cell 1, hn.frozen 0, hn.frozen 1⟩, hn.lt⟩)
    have kB1 : ∀ wx v2, Below W.heap.size W wx → wx.ownsRow W.heap.size 2 1 v2 pa.length (ints pa) → Calls Try.prog 59 #[.agg #[.int .i64 m, .int .i64 e]] wx (fun e' w' => ∃ v1, e' = .returned v1 ∧ w'.ownsRow W.heap.size 2 1 v1 pb.length (ints pb) ∧ Below W.heap.size W w' ∧ w'.ownsRow W.heap.size 2 1 v2 pa.length (ints pa)) := fun wx v2 hb ho => (kPb wx).mono fun e' w' ⟨v1, h1, h2, h3⟩ => (by exact ⟨v1, h1, own_base h2 hb.size, bthen hb h3 hb.size, own_below ho h3 (Nat.le_refl _)⟩)
    have kB1' : ∀ wx v2 g, Below W.heap.size W wx → wx.ownsRow W.heap.size 2 1 v2 pa.length (ints pa) → Blk wx g 24 #[.int .i64 0, .int .i64 0] → W.heap.size ≤ g → Calls Try.prog 59 #[.agg #[.int .i64 m, .int .i64 e]] wx (fun e' w' => ∃ v1, e' = .returned v1 ∧ w'.ownsRow W.heap.size 2 1 v1 pb.length (ints pb) ∧ Below W.heap.size W w' ∧ w'.ownsRow W.heap.size 2 1 v2 pa.length (ints pa) ∧ Blk w' g 24 #[.int .i64 0, .int .i64 0] ∧ W.heap.size ≤ g ∧ (w'.cell? ⟨g, 0, none⟩ = some (.int .i64 0) ∧ w'.cell? ⟨g, 1, none⟩ = some (.int .i64 0) ∧ w'.frozen? ⟨g, 0, none⟩ = false ∧ w'.frozen? ⟨g, 1, none⟩ = false) ∧ g < w'.heap.size) := fun wx v2 g hb ho hN hg => (kPb wx).mono fun e' w' ⟨v1, h1, h2, h3⟩ => (by have hn := hN.below h3 hN.lt; exact ⟨v1, h1, own_base h2 hb.size, bthen hb h3 hb.size, own_below ho h3 (Nat.le_refl _), hn, hg, ⟨hn.cell 0, hn.cell 1, hn.frozen 0, hn.frozen 1⟩, hn.lt⟩)
    have kC : ∀ wx v1 v2, Below W.heap.size W wx → wx.ownsRow W.heap.size 2 1 v1 pa.length (ints pa) → wx.ownsRow W.heap.size 2 1 v2 pb.length (ints pb) → Calls Try.prog 67 #[v1, v2] wx (fun e' w' => ∃ v3, e' = .returned v3 ∧ Rs w' 1 v3 (coL pa pb).length (ints (coL pa pb)) ∧ Below W.heap.size W w') := fun wx v1 v2 hb h1 h2 => (kCm v1 v2 wx (Rs.of_own h1) (Rs.of_own h2)).mono fun e' w' ⟨v3, q1, q2, q3⟩ => (by exact ⟨v3, q1, q2, bthen hb q3 hb.size⟩)
    have kD : ∀ wx v3, Below W.heap.size W wx → Rs wx 1 v3 (coL pa pb).length (ints (coL pa pb)) → Calls Try.prog 60 #[v3] wx (fun e' w' => e' = .returned (.tuple #[.agg #[.int .i64 X, .int .i64 Y], .bool fb]) ∧ Below W.heap.size W w') := fun wx v3 hb h3 => (kFa v3 wx h3).mono fun e' w' h => (by exact ⟨h.1, bthen hb h.2 hb.size⟩)
    have kC' : ∀ wx v1 v2 g, Below W.heap.size W wx → wx.ownsRow W.heap.size 2 1 v1 pa.length (ints pa) → wx.ownsRow W.heap.size 2 1 v2 pb.length (ints pb) → Blk wx g 24 #[.int .i64 0, .int .i64 0] → W.heap.size ≤ g → Calls Try.prog 67 #[v1, v2] wx (fun e' w' => ∃ v3, e' = .returned v3 ∧ Rs w' 1 v3 (coL pa pb).length (ints (coL pa pb)) ∧ Below W.heap.size W w' ∧ Blk w' g 24 #[.int .i64 0, .int .i64 0] ∧ W.heap.size ≤ g ∧ (w'.cell? ⟨g, 0, none⟩ = some (.int .i64 0) ∧ w'.cell? ⟨g, 1, none⟩ = some (.int .i64 0) ∧ w'.frozen? ⟨g, 0, none⟩ = false ∧ w'.frozen? ⟨g, 1, none⟩ = false) ∧ g < w'.heap.size) := fun wx v1 v2 g hb h1 h2 hN hg => (kCm v1 v2 wx (Rs.of_own h1) (Rs.of_own h2)).mono fun e' w' ⟨v3, q1, q2, q3⟩ => (by have hn := hN.below q3 hN.lt; exact ⟨v3, q1, q2, bthen hb q3 hb.size, hn, hg, ⟨hn.cell 0, hn.cell 1, hn.frozen 0, hn.frozen 1⟩, hn.lt⟩)
    have kD' : ∀ wx v3 g, Below W.heap.size W wx → Rs wx 1 v3 (coL pa pb).length (ints (coL pa pb)) → Blk wx g 24 #[.int .i64 0, .int .i64 0] → W.heap.size ≤ g → Calls Try.prog 60 #[v3] wx (fun e' w' => e' = .returned (.tuple #[.agg #[.int .i64 X, .int .i64 Y], .bool fb]) ∧ Below W.heap.size W w' ∧ Blk w' g 24 #[.int .i64 0, .int .i64 0] ∧ W.heap.size ≤ g ∧ (w'.cell? ⟨g, 0, none⟩ = some (.int .i64 0) ∧ w'.cell? ⟨g, 1, none⟩ = some (.int .i64 0) ∧ w'.frozen? ⟨g, 0, none⟩ = false ∧ w'.frozen? ⟨g, 1, none⟩ = false) ∧ g < w'.heap.size) := fun wx v3 g hb h3 hN hg => (kFa v3 wx h3).mono fun e' w' h => (by have hn := hN.below h.2 hN.lt; exact ⟨h.1, bthen hb h.2 hb.size, hn, hg, ⟨hn.cell 0, hn.cell 1, hn.frozen 0, hn.frozen 1⟩, hn.lt⟩)
    have KS : ∀ wx, Below W.heap.size W wx → wx.cell? ⟨w.heap.size, 0, none⟩ = some (.int .i64 n) ∧ wx.cell? ⟨w.heap.size, 1, none⟩ = some (.int .i64 d) ∧ wx.cell? ⟨w.heap.size + 1, 0, none⟩ = some (.int .i64 m) ∧ wx.cell? ⟨w.heap.size + 1, 1, none⟩ = some (.int .i64 e) := fun wx hb => by
      have g1 := hA.below hb hA.lt
      have g2 := hC.below hb hC.lt
      exact ⟨g1.cell 0, g1.cell 1, g2.cell 0, g2.cell 1⟩
    obtain ⟨l1, l2, l3, l4⟩ := KS W (Below.refl _ _)
    go_upto_region 4 with fail
    go_cut [7, 8] from 16 (fun s7 s8 wx => ∃ g7, s7 = .pointer (some ⟨g7, 0, none⟩) ∧ s8 = .bool fb ∧ Blk wx g7 24 #[.int .i64 X, .int .i64 Y] ∧ Below W.heap.size W wx ∧ W.heap.size ≤ g7)
    case first =>
      go_region_held3 (fun wx => wx.cell? ⟨w.heap.size, 0, none⟩ = some (.int .i64 n) ∧ wx.cell? ⟨w.heap.size, 1, none⟩ = some (.int .i64 d) ∧ wx.cell? ⟨w.heap.size + 1, 0, none⟩ = some (.int .i64 m) ∧ wx.cell? ⟨w.heap.size + 1, 1, none⟩ = some (.int .i64 e))
        (first | exact KS _ bx | exact KS _ (bx.alloc bx.size _) | exact KS _ ((bx.setCell (p := ⟨_, 0, none⟩) hgN _).setCell (p := ⟨_, 1, none⟩) hgN _) | exact KS _ (Below.refl _ _).drew | exact KS _ ((Below.refl _ _).alloc (Nat.le_refl _) _).drew | go_keep)
        (first
          | (go_at_call_of 59 (Value.agg #[Value.int .i64 n, Value.int .i64 d]); refine (kA1' _ vb _ (by first | exact bx | exact bx.alloc bx.size _ | exact (Below.refl _ _).drew | exact ((Below.refl _ _).alloc (Nat.le_refl _) _).drew) (by first | exact oB | exact oB.alloc _) (by first | exact hN | exact Blk.new _ _ _ | exact (Blk.new _ _ _).drew) (by first | exact hgN | exact bx.size | exact Nat.le_refl _)).mono ?_; rintro _ w2 ⟨va, rfl, oA, bx, oB, hN, hgN, ⟨n1, n2, n3, n4⟩, n5⟩)
          | (go_at_call_of 59 (Value.agg #[Value.int .i64 n, Value.int .i64 d]); refine (kA1 _ vb (by first | exact bx | exact bx.alloc bx.size _ | exact (Below.refl _ _).drew | exact ((Below.refl _ _).alloc (Nat.le_refl _) _).drew) (by first | exact oB | exact oB.alloc _)).mono ?_; rintro _ w2 ⟨va, rfl, oA, bx, oB⟩)
          | (go_at_call_of 59 (Value.agg #[Value.int .i64 n, Value.int .i64 d]); refine (kA0' _ _ (by first | exact bx | exact bx.alloc bx.size _ | exact (Below.refl _ _).drew | exact ((Below.refl _ _).alloc (Nat.le_refl _) _).drew) (by first | exact hN | exact Blk.new _ _ _ | exact (Blk.new _ _ _).drew) (by first | exact hgN | exact bx.size | exact Nat.le_refl _)).mono ?_; rintro _ w2 ⟨va, rfl, oA, bx, hN, hgN, ⟨n1, n2, n3, n4⟩, n5⟩)
          | (go_at_call_of 59 (Value.agg #[Value.int .i64 n, Value.int .i64 d]); refine (kA0 _ (by first | exact bx | exact bx.alloc bx.size _ | exact (Below.refl _ _).drew | exact ((Below.refl _ _).alloc (Nat.le_refl _) _).drew)).mono ?_; rintro _ w2 ⟨va, rfl, oA, bx⟩)
          | (go_at_call_of 59 (Value.agg #[Value.int .i64 m, Value.int .i64 e]); refine (kB1' _ va _ (by first | exact bx | exact bx.alloc bx.size _ | exact (Below.refl _ _).drew | exact ((Below.refl _ _).alloc (Nat.le_refl _) _).drew) (by first | exact oA | exact oA.alloc _) (by first | exact hN | exact Blk.new _ _ _ | exact (Blk.new _ _ _).drew) (by first | exact hgN | exact bx.size | exact Nat.le_refl _)).mono ?_; rintro _ w2 ⟨vb, rfl, oB, bx, oA, hN, hgN, ⟨n1, n2, n3, n4⟩, n5⟩)
          | (go_at_call_of 59 (Value.agg #[Value.int .i64 m, Value.int .i64 e]); refine (kB1 _ va (by first | exact bx | exact bx.alloc bx.size _ | exact (Below.refl _ _).drew | exact ((Below.refl _ _).alloc (Nat.le_refl _) _).drew) (by first | exact oA | exact oA.alloc _)).mono ?_; rintro _ w2 ⟨vb, rfl, oB, bx, oA⟩)
          | (go_at_call_of 59 (Value.agg #[Value.int .i64 m, Value.int .i64 e]); refine (kB0' _ _ (by first | exact bx | exact bx.alloc bx.size _ | exact (Below.refl _ _).drew | exact ((Below.refl _ _).alloc (Nat.le_refl _) _).drew) (by first | exact hN | exact Blk.new _ _ _ | exact (Blk.new _ _ _).drew) (by first | exact hgN | exact bx.size | exact Nat.le_refl _)).mono ?_; rintro _ w2 ⟨vb, rfl, oB, bx, hN, hgN, ⟨n1, n2, n3, n4⟩, n5⟩)
          | (go_at_call_of 59 (Value.agg #[Value.int .i64 m, Value.int .i64 e]); refine (kB0 _ (by first | exact bx | exact bx.alloc bx.size _ | exact (Below.refl _ _).drew | exact ((Below.refl _ _).alloc (Nat.le_refl _) _).drew)).mono ?_; rintro _ w2 ⟨vb, rfl, oB, bx⟩)
          | (go_at_call 67; refine (kC' _ va vb _ (by first | exact bx | exact bx.alloc bx.size _ | exact (Below.refl _ _).drew | exact ((Below.refl _ _).alloc (Nat.le_refl _) _).drew) (by first | exact oA | exact oA.alloc _) (by first | exact oB | exact oB.alloc _) (by first | exact hN | exact Blk.new _ _ _ | exact (Blk.new _ _ _).drew) (by first | exact hgN | exact bx.size | exact Nat.le_refl _)).mono ?_; rintro _ w2 ⟨vc, rfl, oC, bx, hN, hgN, ⟨n1, n2, n3, n4⟩, n5⟩)
          | (go_at_call 67; refine (kC _ va vb (by first | exact bx | exact bx.alloc bx.size _ | exact (Below.refl _ _).drew | exact ((Below.refl _ _).alloc (Nat.le_refl _) _).drew) (by first | exact oA | exact oA.alloc _) (by first | exact oB | exact oB.alloc _)).mono ?_; rintro _ w2 ⟨vc, rfl, oC, bx⟩)
          | (go_at_call 60; refine (kD' _ vc _ (by first | exact bx | exact bx.alloc bx.size _ | exact (Below.refl _ _).drew | exact ((Below.refl _ _).alloc (Nat.le_refl _) _).drew) (by first | exact oC | exact oC.alloc _) (by first | exact hN | exact Blk.new _ _ _ | exact (Blk.new _ _ _).drew) (by first | exact hgN | exact bx.size | exact Nat.le_refl _)).mono ?_; rintro _ w2 ⟨rfl, bx, hN, hgN, ⟨n1, n2, n3, n4⟩, n5⟩)
          | (go_at_call 60; refine (kD _ vc (by first | exact bx | exact bx.alloc bx.size _ | exact (Below.refl _ _).drew | exact ((Below.refl _ _).alloc (Nat.le_refl _) _).drew) (by first | exact oC | exact oC.alloc _)).mono ?_; rintro _ w2 ⟨rfl, bx⟩))
      all_goals go_wp2_with fail
      all_goals go_meet
      all_goals first | exact ⟨_, rfl, rfl, hN.set2 _ _, (bx.setCell (p := ⟨_, 0, none⟩) hgN _).setCell (p := ⟨_, 1, none⟩) hgN _, hgN⟩ | exact ⟨_, rfl, rfl, Blk.new _ _ _, bx.alloc bx.size _, bx.size⟩
    case rest =>
      obtain ⟨g7, rfl, rfl, h7, bel2, hg7⟩ := hcut
      have hR2 := hR.below bel2 hR.lt
      have bel3 := bthen bel1 bel2 bel1.size
      have d0 : wc.cell? ⟨w.heap.size + 1 + 1, 0, none⟩ = some (.int .i64 0) := hR2.cell 0
      have d1 : wc.cell? ⟨w.heap.size + 1 + 1, 1, none⟩ = some (.int .i64 0) := hR2.cell 1
      have d2 : wc.frozen? ⟨w.heap.size + 1 + 1, 0, none⟩ = false := hR2.frozen 0
      have d3 : wc.frozen? ⟨w.heap.size + 1 + 1, 1, none⟩ = false := hR2.frozen 1
      have zB := hR2.lt
      have f0 : wc.cell? ⟨g7, 0, none⟩ = some (.int .i64 X) := h7.cell 0
      have f1 : wc.cell? ⟨g7, 1, none⟩ = some (.int .i64 Y) := h7.cell 1
      have zG := h7.lt
      clear hA hC hR hR2 h7 bel1 bel2 l1 l2 l3 l4
      go_wp2
      refine bodyPost_ret (by simp [results, Try.results12, go_sem, *]; try rfl) rfl ?_
      refine ⟨by first | rfl | simp, ?_⟩
      repeat' (first | (with_reducible exact Below.refl _ _) | (with_reducible assumption) | (with_reducible refine Below.alloc ?_ ?_ _) | (with_reducible refine Below.drew ?_) | (with_reducible refine bdrewN ?_ _) | (with_reducible refine Below.setCell ?_ ?_ _) | (with_reducible refine bthen ?_ (by assumption) ?_) | go_size)
  · have hM : caC n d m e = (0, 0, r) := by unfold caC; rw [if_neg (by rw [hr]; exact h0), hr]
    rw [hM]
    have hne : (r != 0) = true := by simp [h0]
    clear hM hr h0
    go_enter Try.func12, Try.ntmps12
    go_wp2_with fail
    apply Calls.mono
    · with_reducible exact l05Two_any _ _ _ _ r H.out _
    rintro _ w1 ⟨rfl, hb_w1⟩
    obtain ⟨hc_w1, hf_w1, hs_w1⟩ := bcell hb_w1
    try simp at hs_w1
    have hz_w1_w0 : w.heap.size < w1.heap.size := by omega
    have hy_w1_w0 : w.heap.size ≤ w1.heap.size := by omega
    have hx_w1_w0 : ∀ n : Nat, w.heap.size < w1.heap.size + n := by intro n; omega
    have hv_w1_w0 : ∀ n : Nat, w.heap.size ≤ w1.heap.size + n := by intro n; omega
    have hz_w1_w1 : w.heap.size + 1 < w1.heap.size := by omega
    have hy_w1_w1 : w.heap.size + 1 ≤ w1.heap.size := by omega
    have hx_w1_w1 : ∀ n : Nat, w.heap.size + 1 < w1.heap.size + n := by intro n; omega
    have hv_w1_w1 : ∀ n : Nat, w.heap.size + 1 ≤ w1.heap.size + n := by intro n; omega
    have hz_w1_w2 : w.heap.size + 2 < w1.heap.size := by omega
    have hy_w1_w2 : w.heap.size + 2 ≤ w1.heap.size := by omega
    have hx_w1_w2 : ∀ n : Nat, w.heap.size + 2 < w1.heap.size + n := by intro n; omega
    have hv_w1_w2 : ∀ n : Nat, w.heap.size + 2 ≤ w1.heap.size + n := by intro n; omega
    go_wp2
    refine bodyPost_ret (by simp [results, Try.results12, go_sem, *]; try rfl) rfl ?_
    refine ⟨by first | rfl | simp, ?_⟩
    repeat' (first | (with_reducible exact Below.refl _ _) | (with_reducible assumption) | (with_reducible refine Below.alloc ?_ ?_ _) | (with_reducible refine Below.drew ?_) | (with_reducible refine bdrewN ?_ _) | (with_reducible refine Below.setCell ?_ ?_ _) | (with_reducible refine bthen ?_ (by assumption) ?_) | go_size)
end Go.Proofs.Ytlmmpeeacjbobaa
