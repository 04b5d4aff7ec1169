/-
  Draws of pairs of fractions. Printed by mkpair.py.
-/
import Derived.Test.YtlmmpeeacjbobaaRn
import Derived.Test.YtlmmpeeacjbobaaNg
import Derived.Test.YtlmmpeeacjbobaaTz
import Derived.Test.YtlmmpeeacjbobaaCa
namespace Go.Proofs.Ytlmmpeeacjbobaa
open Go.RowKit

def Tri (w : World) (t : TypeId) (r a : Nat) (n d : Int) : Prop :=
  Blk w r t #[.int .i64 0, .int .i64 0] ∧ Blk w (r + 1) t #[.int .i64 0, .int .i64 0] ∧ Blk w a t #[.int .i64 n, .int .i64 d]
theorem Tri.below {w w' : World} {t : TypeId} {r a : Nat} {n d : Int} (h : Tri w t r a n d) (hb : Below w.heap.size w w') : Tri w' t r a n d :=
  ⟨h.1.below hb h.1.lt, h.2.1.below hb h.2.1.lt, h.2.2.below hb h.2.2.lt⟩
theorem Tri.grown {w w' : World} {t : TypeId} {r a g : Nat} {n d : Int} (h : Tri w t r a n d) (hb : w.grownBy w' (some g)) (h1 : r ≠ g) (h2 : r + 1 ≠ g) (h3 : a ≠ g) : Tri w' t r a n d :=
  ⟨h.1.grown hb (fun e => h1 (by injection e)), h.2.1.grown hb (fun e => h2 (by injection e)), h.2.2.grown hb (fun e => h3 (by injection e))⟩
theorem Tri.alloc {w : World} {t : TypeId} {r a : Nat} {n d : Int} (h : Tri w t r a n d) (o : Obj) : Tri (w.alloc o) t r a n d := ⟨h.1.alloc o, h.2.1.alloc o, h.2.2.alloc o⟩
def TriF (w : World) (r a : Nat) (n d : Int) : Prop :=
    (w.cell? ⟨r, 0, none⟩ = some (.int .i64 0) ∧ w.cell? ⟨r, 1, none⟩ = some (.int .i64 0) ∧ w.cell? ⟨r + 1, 0, none⟩ = some (.int .i64 0) ∧ w.cell? ⟨r + 1, 1, none⟩ = some (.int .i64 0)) ∧
    (w.cell? ⟨a, 0, none⟩ = some (.int .i64 n) ∧ w.cell? ⟨a, 1, none⟩ = some (.int .i64 d)) ∧
    (w.frozen? ⟨r, 0, none⟩ = false ∧ w.frozen? ⟨r, 1, none⟩ = false ∧ w.frozen? ⟨r + 1, 0, none⟩ = false ∧ w.frozen? ⟨r + 1, 1, none⟩ = false) ∧ (r < w.heap.size ∧ r + 1 < w.heap.size ∧ a < w.heap.size)
theorem Tri.facts {w : World} {t : TypeId} {r a : Nat} {n d : Int} (h : Tri w t r a n d) : TriF w r a n d :=
  ⟨⟨h.1.cell 0, h.1.cell 1, h.2.1.cell 0, h.2.1.cell 1⟩, ⟨h.2.2.cell 0, h.2.2.cell 1⟩, ⟨h.1.frozen 0, h.1.frozen 1, h.2.1.frozen 0, h.2.1.frozen 1⟩, h.1.lt, h.2.1.lt, h.2.2.lt⟩
/-- A prefix of a path has an end. -/
theorem take_fa {i : List Int} {l : Int} (E : ExL i l) (k : Nat) : FaS ((pthL i l).take k) := by
  have hp := pth_ok E
  by_cases e : (pthL i l).take k = []
  · exact .inl e
  · obtain ⟨j, m, hj⟩ := snoc_of e
    have h1 : ∀ t ∈ (pthL i l).take k, 0 ≤ t ∧ t ≤ 999999999 := fun t ht => hp.bd t (List.mem_of_mem_take ht)
    have h2 : ∀ t ∈ ((pthL i l).take k).drop 1, 1 ≤ t := fun t ht => hp.tl t (by
      rw [List.drop_take] at ht
      exact List.mem_of_mem_take ht)
    have h3 : ((pthL i l).take k).length ≤ 60 := by rw [List.length_take]; have := hp.len; omega
    rw [hj] at h1 h2 h3 ⊢
    have hm := h1 m (by simp)
    refine .inr ⟨j, m, rfl, by omega, tms_snoc (fun t ht => by have := h1 t (List.mem_append_left _ ht); omega) (fun t ht => h2 t ?_) (by omega) (by omega) (fun _ => by omega) (by simpa using h3)⟩
    cases j with
    | nil => simp at ht
    | cons y j => simp only [List.cons_append, List.drop_one, List.tail_cons] at ht ⊢; exact List.mem_append_left _ ht
set_option maxHeartbeats 8000000 in
set_option maxRecDepth 100000 in
theorem l05Pair_any (g m : Nat) (w : World) (h : Src w g m) (hm : m ≤ 400000) : Calls Try.prog 80 #[.pointer (some ⟨g, 0, none⟩)] w (DrewFF w g (m + 60)) := by
  have hg0 := h.lt'
  have S0 := (h.alloc' (.cells #[.int .i64 0, .int .i64 0] 24)).alloc' (.cells #[.int .i64 0, .int .i64 0] 24)
  have G0 : w.grownBy ((w.alloc (.cells #[.int .i64 0, .int .i64 0] 24)).alloc (.cells #[.int .i64 0, .int .i64 0] 24)) (some g) := grown_tr (World.grownBy_alloc w _ _) (World.grownBy_alloc _ _ _)
  have B0 := (Blk.new w 24 #[.int .i64 0, .int .i64 0]).alloc (.cells #[.int .i64 0, .int .i64 0] 24)
  have B0' : Blk ((w.alloc (.cells #[.int .i64 0, .int .i64 0] 24)).alloc (.cells #[.int .i64 0, .int .i64 0] 24)) (w.heap.size + 1) 24 #[.int .i64 0, .int .i64 0] := blk_at1' w _ _ _
  have ng1 : w.heap.size ≠ g := by omega
  have ng2 : w.heap.size + 1 ≠ g := by omega
  clear h
  go_enter Try.func80, Try.ntmps80
  go_wp2_with fail
  apply Calls.mono
  · with_reducible exact l05Draw_any g m _ S0 (by omega)
  rintro _ w1 ⟨n, d, rfl, s1, g1⟩
  have G1 := grown_tr G0 g1
  have B1 := B0.grown g1 (fun e => ng1 (by injection e))
  have B1' := B0'.grown g1 (fun e => ng2 (by injection e))
  have z1 := G1.size
  have zR := B1'.lt
  have S1 := s1.alloc' (.cells #[.int .i64 n, .int .i64 d] 24)
  have G1a := grown_alloc G1 (.cells #[.int .i64 n, .int .i64 d] 24)
  have T1 : Tri (w1.alloc (.cells #[.int .i64 n, .int .i64 d] 24)) 24 w.heap.size w1.heap.size n d := ⟨B1.alloc _, B1'.alloc _, Blk.new w1 _ _⟩
  have ng3 : w1.heap.size ≠ g := by omega
  have ne1 : w.heap.size ≠ w1.heap.size := by omega
  have ne2 : w1.heap.size ≠ w.heap.size := by omega
  have ne3 : w.heap.size + 1 ≠ w1.heap.size := by omega
  have ne4 : w1.heap.size ≠ w.heap.size + 1 := by omega
  clear S0 G0 B0 B0' g1 s1 G1 B1 B1'
  obtain ⟨⟨c0, c1, c2, c3⟩, ⟨d0, d1⟩, ⟨f0, f1, f2, f3⟩, y0, y1, y2⟩ := T1.facts
  have kTail : ∀ (W : World) (q : Nat), q ≤ m + 30 → Src W g q → w.grownBy W (some g) → Tri W 24 w.heap.size w1.heap.size n d → ∀ wx, Below W.heap.size W wx → Calls Try.prog 69 #[.pointer (some ⟨g, 0, none⟩)] wx (fun e w3 => ∃ n' d' : Int, e = .returned (.agg #[.int .i64 n', .int .i64 d']) ∧ Src w3 g (m + 60) ∧ w.grownBy w3 (some g) ∧ TriF w3 w.heap.size w1.heap.size n d) := by
    intro W q hq hS hG hT wx hx
    refine (l05Draw_any g q wx (hS.below hx) (by omega)).mono ?_
    rintro _ w3 ⟨n', d', rfl, s3, g3⟩
    exact ⟨n', d', rfl, s3.mono (by omega), grown_tr (grown_below_tr hG hx) g3, ((hT.below hx).grown g3 ng1 ng2 ng3).facts⟩
  obtain ⟨r, hr⟩ : ∃ r, posC n d = r := ⟨_, rfl⟩
  have kC := fun w => l05Code_any n d r hr w
  go_wp2_with fail
  apply Calls.mono
  · with_reducible exact kC _
  rintro _ w2 ⟨rfl, hb2⟩
  have S2 := S1.below hb2
  have G2 := grown_below_tr G1a hb2
  have T2 := T1.below hb2
  clear S1 G1a T1 c0 c1 c2 c3 d0 d1 f0 f1 f2 f3 y0 y1 y2 hb2 kC
  by_cases h0 : r = 0
  · subst h0
    obtain ⟨hok, ⟨n1, n2⟩, e1, e2⟩ := pos_facts hr
    obtain ⟨i, l, hL, E⟩ := ex_all n1 n2 e1 e2
    have kP := fun w => l05Path_any n d n1 n2 e1 e2 i l hL E w
    have hF := fun k => take_fa E k
    have hlen := (pth_ok E).len
    generalize pthL i l = s at *
    have kA := fun v k w h => l05At_fa v (s.take k) w h (hF k)
    clear hr hL E hok hF n1 n2 e1 e2
    go_wp2_with fail
    apply Calls.mono
    · with_reducible exact one_any g (m + 22) 2 _ S2 (by omega) (by omega) (by omega)
    rintro _ w3 ⟨t, rfl, S3, g3⟩
    have G3 := grown_tr G2 g3
    have T3 := T2.grown g3 ng1 ng2 ng3
    have hz3 := T3.2.2.lt
    clear S2 G2 T2 g3
    obtain ⟨⟨c0, c1, c2, c3⟩, ⟨d0, d1⟩, ⟨f0, f1, f2, f3⟩, y0, y1, y2⟩ := T3.facts
    cases t
    · clear kP kA
      have kB := kTail w3 (m + 22 + 2) (by omega) S3 G3 T3
      clear S3 G3 T3 kTail
      go_wp2_with fail
      go_region_with (go_at_call 69; refine (kB _ ?_).mono ?_; (first | exact Below.refl _ _ | exact (Below.refl _ _).drew); rintro _ w3 ⟨n', d', rfl, s3, g3, ⟨u0, u1, u2, u3⟩, ⟨u4, u5⟩, ⟨v0, v1, v2, v3⟩, x0, x1, x2⟩)
      all_goals go_wp2
      all_goals refine bodyPost_ret (by simp [results, Try.results80, go_sem, *]; try rfl) rfl ?_
      all_goals first | exact ⟨_, _, _, _, rfl, src_set2 (src_set2 s3 (by omega) _ _) (by omega) _ _, grown_set2b (grown_set2b g3 (by omega) _ _) (by omega) _ _⟩ | skip
    · go_wp2_with fail
      apply Calls.mono
      · with_reducible exact kP _
      rintro _ w4 ⟨v4, rfl, ho4, hb4⟩
      have S4 := S3.below hb4
      have G4 := grown_below_tr G3 hb4
      have T4 := T3.below hb4
      clear S3 G3 T3 hb4 kP c0 c1 c2 c3 d0 d1 f0 f1 f2 f3 y0 y1 y2
      obtain ⟨⟨c0, c1, c2, c3⟩, ⟨d0, d1⟩, ⟨f0, f1, f2, f3⟩, y0, y1, y2⟩ := T4.facts
      obtain ⟨a4, cap4, rfl, -⟩ := id (Rd.of_own ho4)
      by_cases hs : s = []
      · subst hs
        clear kA ho4
        have hL0 : ¬ ((0 : Int) < ((([] : List Int).length : Nat) : Int)) := by simp
        have kB := kTail w4 (m + 22 + 2) (by omega) S4 G4 T4
        clear S4 G4 T4 kTail
        go_wp2_with fail
        go_region_with (go_at_call 69; refine (kB _ ?_).mono ?_; (first | exact Below.refl _ _ | exact (Below.refl _ _).drew); rintro _ w3 ⟨n', d', rfl, s3, g3, ⟨u0, u1, u2, u3⟩, ⟨u4, u5⟩, ⟨v0, v1, v2, v3⟩, x0, x1, x2⟩)
        all_goals go_wp2
        all_goals refine bodyPost_ret (by simp [results, Try.results80, go_sem, *]; try rfl) rfl ?_
        all_goals first | exact ⟨_, _, _, _, rfl, src_set2 (src_set2 s3 (by omega) _ _) (by omega) _ _, grown_set2b (grown_set2b g3 (by omega) _ _) (by omega) _ _⟩ | skip
      · have hl1 : 1 ≤ s.length := by
          cases s with
          | nil => exact absurd rfl hs
          | cons => simp
        have hL0 : (0 : Int) < (s.length : Int) := by omega
        obtain ⟨g5, cap5, hv5, hg51, hg52, hnc, hcm⟩ := own_block ho4 hl1
        injection hv5 with hv5 _ hv5c
        subst hv5 hv5c
        clear kTail hs
        go_wp2_with fail
        apply Calls.mono
        · with_reducible exact pick_any g (m + 22 + 2) _ _ S4 (by omega) (by omega) (by omega)
        rintro _ w5 ⟨k0, rfl, ⟨k1, k2⟩, S5, g5'⟩
        obtain ⟨k, rfl⟩ := Int.eq_ofNat_of_zero_le k1
        have hks : k ≤ s.length := by omega
        have G5 := grown_tr G4 g5'
        have T5 := T4.grown g5' ng1 ng2 ng3
        have ho5 := own_keep ho4 g5' (by omega)
        have hfr := Rs.of_own (own_front ho5 hks)
        rw [show (ints s).take k = ints (s.take k) by simp [ints, List.map_take]] at hfr
        have hlk : (s.take k).length = k := by rw [List.length_take]; omega
        have kA2 := fun w h => kA (.slice (some ⟨g5, 0, none⟩) k cap4) k w h
        rw [hlk] at kA2
        have hcm' : (cap4 : Int) ≤ 9223372036854775807 := by simp [maxLen] at hcm; omega
        clear S4 G4 T4 g5' ho4 ho5 kA c0 c1 c2 c3 d0 d1 f0 f1 f2 f3 y0 y1 y2 k1
        go_wp2_with fail
        apply Calls.mono
        · with_reducible exact kA2 _ hfr
        rintro _ w6 ⟨rfl, hb6⟩
        have S6 := (S5.below hb6).alloc' (.cells #[.int .i64 (faM (s.take k)).1, .int .i64 (faM (s.take k)).2] 24)
        have G6 := grown_alloc (grown_below_tr G5 hb6) (.cells #[.int .i64 (faM (s.take k)).1, .int .i64 (faM (s.take k)).2] 24)
        have T6 := (T5.below hb6).alloc (.cells #[.int .i64 (faM (s.take k)).1, .int .i64 (faM (s.take k)).2] 24)
        have N6 := Blk.new w6 24 #[.int .i64 (faM (s.take k)).1, .int .i64 (faM (s.take k)).2]
        generalize (faM (s.take k)).1 = X at *
        generalize (faM (s.take k)).2 = Y at *
        have p0 := N6.cell 0
        have p1 := N6.cell 1
        have q1 : w6.heap.size ≠ w.heap.size := by have := (T5.below hb6).1.lt; omega
        have q2 : w6.heap.size ≠ w.heap.size + 1 := by have := (T5.below hb6).2.1.lt; omega
        have q3 := q1.symm
        have q4 := q2.symm
        clear S5 G5 T5 hb6 hfr kA2 N6
        obtain ⟨⟨c0, c1, c2, c3⟩, ⟨d0, d1⟩, ⟨f0, f1, f2, f3⟩, y0, y1, y2⟩ := T6.facts
        clear T6
        go_wp2_with fail
        go_region
        all_goals go_wp2
        all_goals refine bodyPost_ret (by simp [results, Try.results80, go_sem, *]; try rfl) rfl ?_
        all_goals first | exact ⟨_, _, _, _, rfl, (src_set2 (src_set2 (S6.below (Below.refl _ _).drew) (by omega) _ _) (by omega) _ _).mono (by omega), grown_set2b (grown_set2b (grown_below_tr G6 (Below.refl _ _).drew) (by omega) _ _) (by omega) _ _⟩ | skip
  · have h0' : (r == 0) = false := by simp [h0]
    clear hr h0
    obtain ⟨⟨c0, c1, c2, c3⟩, ⟨d0, d1⟩, ⟨f0, f1, f2, f3⟩, y0, y1, y2⟩ := T2.facts
    have kB := kTail w2 (m + 22) (by omega) S2 G2 T2
    clear S2 G2 T2 kTail
    go_wp2_with fail
    go_region_with (go_at_call 69; refine (kB _ ?_).mono ?_; (first | exact Below.refl _ _ | exact (Below.refl _ _).drew); rintro _ w3 ⟨n', d', rfl, s3, g3, ⟨u0, u1, u2, u3⟩, ⟨u4, u5⟩, ⟨v0, v1, v2, v3⟩, x0, x1, x2⟩)
    all_goals go_wp2
    all_goals refine bodyPost_ret (by simp [results, Try.results80, go_sem, *]; try rfl) rfl ?_
    all_goals first | exact ⟨_, _, _, _, rfl, src_set2 (src_set2 s3 (by omega) _ _) (by omega) _ _, grown_set2b (grown_set2b g3 (by omega) _ _) (by omega) _ _⟩ | skip
end Go.Proofs.Ytlmmpeeacjbobaa
