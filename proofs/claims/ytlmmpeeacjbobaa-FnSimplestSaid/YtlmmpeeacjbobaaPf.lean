/-
  Parents of fractions: both packages' ways over paths.
-/
import Derived.Test.YtlmmpeeacjbobaaCv2
namespace Go.Proofs.Ytlmmpeeacjbobaa
open Go.RowKit

/-- The last convergent; false if one of them is not plain. -/
def caM (zs : List Int) : Int × Int × Bool := if fitL zs then ((mtx zs).1.1, (mtx zs).1.2, true) else (0, 0, false)
theorem own_blk2 {w : World} {base : Nat} {e : TypeId} {n : Nat} {v : Value} {xs : List Value} (h : w.ownsRow base e 2 v n xs) (hn : 1 ≤ n) : ∃ g cap, v = .slice (some ⟨g, 0, none⟩) n cap ∧ base ≤ g ∧ g < w.heap.size ∧ n ≤ cap ∧ cap ≤ maxLen := by
  rcases h.2 with ⟨h', h0⟩ | ⟨g, cap, cur, h', hb, hg, hnc, hcm, hcs, htake⟩
  · omega
  · exact ⟨g, cap, h', hb, (Array.getElem?_eq_some_iff.1 hg).1, hnc, hcm⟩
theorem prc_last {zs : List Int} {k : Nat} (h : zs.length = k + 1) : (prc (cvl zs zs.length))[k * 2]? = some (.int .i64 (mtx zs).1.1) ∧ (prc (cvl zs zs.length))[k * 2 + 1]? = some (.int .i64 (mtx zs).1.2) := by
  rw [h, cvl_succ, List.take_of_length_le (by omega)]
  have hl : (prc (cvl zs k)).length = k * 2 := by rw [prc_len, cvl_len]
  constructor
  · rw [List.getElem?_append_right (by omega), hl, Nat.sub_self]; rfl
  · rw [List.getElem?_append_right (by omega), hl, Nat.add_sub_cancel_left]; rfl
theorem ints_last (i : List Int) (l x : Int) : (ints (i ++ [l])).set i.length (.int .i64 x) = ints (i ++ [x]) := by simp [ints]
theorem ints_at (i : List Int) (l : Int) : (ints (i ++ [l]))[i.length]? = some (.int .i64 l) := by simp [ints]
theorem own_lit02 (w : World) (o1 o2 : Obj) (e : TypeId) : (((w.alloc o1).alloc o2).alloc (.cells #[] e)).ownsRow (w.heap.size + 1) e 1 (.slice (some ⟨w.heap.size + 1 + 1, 0, none⟩) 0 0) 0 [] := by
  have h := own_lit00 ((w.alloc o1).alloc o2) e 1
  rw [World.size_alloc, World.size_alloc] at h
  exact own_base h (by omega)
/-- What the walk uses of a copied row whose last cell is changed. -/
theorem own_last {w : World} {base n : Nat} {e : TypeId} {v : Value} {xs : List Value} (i : List Int) (l : Int) (hn : n = i.length + 1) (hx : xs = ints (i ++ [l])) (h : w.ownsRow base e 1 v n xs) :
    ∃ g cap, v = .slice (some ⟨g, 0, none⟩) (i.length + 1) cap ∧ (base ≤ g ∧ g < w.heap.size ∧ i.length + 1 ≤ cap) ∧ w.cell? ⟨g, i.length, none⟩ = some (.int .i64 l) ∧ w.frozen? ⟨g, i.length, none⟩ = false ∧ w.ownsRow base e 1 (.slice (some ⟨g, 0, none⟩) (i.length + 1) cap) (i.length + 1) (ints (i ++ [l])) := by
  subst hn hx
  obtain ⟨g, cap, rfl, h1, h2, h3, h4⟩ := own_block h (by omega)
  exact ⟨g, cap, rfl, ⟨h1, h2, h3⟩, (h.cellAt i.length (by omega)).trans (ints_at i l), h.frozenAt i.length, h⟩
/-- The changed row. -/
theorem own_changed {w : World} {base g cap : Nat} {e : TypeId} {i : List Int} {l : Int} (x : Int) (h : w.ownsRow base e 1 (.slice (some ⟨g, 0, none⟩) (i.length + 1) cap) (i.length + 1) (ints (i ++ [l]))) :
    (w.setCell ⟨g, i.length, none⟩ (.int .i64 x)).ownsRow base e 1 (.slice (some ⟨g, 0, none⟩) (i.length + 1) cap) (i.length + 1) (ints (i ++ [x])) := by
  have h2 := (h.stored i.length (.int .i64 x)).1
  rw [ints_last] at h2
  exact h2
set_option maxHeartbeats 2000000 in
set_option maxRecDepth 100000 in
theorem fractionAt_snoc (v : Value) (i : List Int) (l : Int) (w : World) (hv : Rs w 1 v (i.length + 1) (ints (i ++ [l]))) (hl1 : -1000000000 ≤ l) (hl2 : l ≤ 1000000000) (ht : tmsB (i ++ [l + 1]) = true) :
    Calls Try.prog 64 #[v] w (Ret w (.tuple #[.agg #[.int .i64 (caM (i ++ [l + 1])).1, .int .i64 (caM (i ++ [l + 1])).2.1], .bool (caM (i ++ [l + 1])).2.2])) := by
  have hlen : i.length + 1 ≤ 60 := by have := (tms_iff.1 ht).1; rw [List.length_append, List.length_singleton] at this; omega
  obtain ⟨M, hM⟩ : ∃ M, caM (i ++ [l + 1]) = M := ⟨_, rfl⟩
  rw [hM]
  have HM := Lib.hid hM
  have HT := Lib.hid ht
  obtain ⟨A, c, rfl, -⟩ := id hv.1
  have HV := Lib.hid hv
  clear hM ht hv
  have hS0 := fun W (hb : Below w.heap.size w W) => HV.out.below hb (Nat.le_refl _)
  go_enter Try.func64, Try.ntmps64
  have z3 : w.heap.size + 1 ≤ (((w.alloc (.cells #[.int .i64 0, .int .i64 0] 24)).alloc (.cells #[.int .i64 1] 2)).alloc (.cells #[] 2)).heap.size := by rw [World.size_alloc, World.size_alloc, World.size_alloc]; omega
  have hS3 := ((HV.out.alloc (.cells #[.int .i64 0, .int .i64 0] 24)).alloc (.cells #[.int .i64 1] 2)).alloc (.cells #[] 2)
  have KA := fun v w' h => own_last (w := w') (v := v) (base := w.heap.size + 1) (e := 2) (n := 0 + (i.length + 1)) (xs := ints ([] ++ (i ++ [l]))) i l (Nat.zero_add _) (by rw [List.nil_append]) h
  go_wp2_with (at_builtin; refine wp_appI rfl (.tmp 11) (.tmp 12) rfl (w.heap.size + 1) _ _ 0 (i.length + 1) [] (i ++ [l]) rfl (own_lit02 _ _ _ 2) rfl hS3 (by omega) z3 ?_; intro v1 w1 hown1 hgr1 hat1; obtain ⟨g, cap, rfl, ⟨hg1, hg2, hg3⟩, c1, f1, hown2⟩ := KA _ _ hown1)
  have hB0 := ((Blk.new w 24 #[.int .i64 0, .int .i64 0]).alloc (.cells #[.int .i64 1] 2)).alloc (.cells #[] 2)
  have hB1 := hB0.grown hgr1 (fun e => by have e : some w.heap.size = some (w.heap.size + 1 + 1) := e; injection e with e; omega)
  have bel1 : Below w.heap.size w w1 := ((((Below.refl _ _).alloc (Nat.le_refl _) _).alloc (by rw [World.size_alloc]; omega) _).alloc (by rw [World.size_alloc, World.size_alloc]; omega) _).grown hgr1 (by omega) (fun k hk => by have e : some (w.heap.size + 1 + 1) = some k := hk; injection e with e; omega)
  have hst := own_changed (l + 1) hown2
  have bel2 := bel1.setCell (p := ⟨g, i.length, none⟩) (show w.heap.size ≤ g by omega) (.int .i64 (l + 1))
  have hB2 : Blk (w1.setCell ⟨g, i.length, none⟩ (.int .i64 (l + 1))) w.heap.size 24 #[.int .i64 0, .int .i64 0] := hB1.far (p := ⟨g, i.length, none⟩) (show w.heap.size ≠ g by omega) _
  have kC := convergents_any _ (i.length + 1) (i ++ [l + 1]) _ (Rd.of_own hst) HT.out
  clear KA hB0 hB1 hown1 hown2 hgr1 hat1 bel1 z3 hS3 hS0
  apply Calls.mono
  · with_reducible exact kC
  rintro _ w3 ⟨v3, rfl, ho3, hb_w3⟩
  have hB3 := hB2.below hb_w3 hB2.lt
  have bel3 := bthen bel2 hb_w3 bel2.size
  have d0 : w3.cell? ⟨w.heap.size, 0, none⟩ = some (.int .i64 0) := hB3.cell 0
  have d1 : w3.cell? ⟨w.heap.size, 1, none⟩ = some (.int .i64 0) := hB3.cell 1
  have d2 : w3.frozen? ⟨w.heap.size, 0, none⟩ = false := hB3.frozen 0
  have d3 : w3.frozen? ⟨w.heap.size, 1, none⟩ = false := hB3.frozen 1
  have zB := hB3.lt
  have HM1 := HM.out
  unfold caM at HM1
  cases hF : fitL (i ++ [l + 1])
  · rw [hF] at HM1
    obtain rfl : (0, 0, false) = M := HM1
    clear ho3 HM
    go_wp2
    refine bodyPost_ret (by simp [results, Try.results64, go_sem, *]; try rfl) rfl ?_
    refine ⟨by first | rfl | simp, ?_⟩
    repeat' (first | (with_reducible exact Below.refl _ _) | (with_reducible assumption) | (with_reducible refine Below.alloc ?_ ?_ _) | (with_reducible refine Below.drew ?_) | (with_reducible refine bdrewN ?_ _) | (with_reducible refine Below.setCell ?_ ?_ _) | (with_reducible refine bthen ?_ (by assumption) ?_) | go_size)
  · rw [hF] at HM1
    obtain rfl : ((mtx (i ++ [l + 1])).1.1, (mtx (i ++ [l + 1])).1.2, true) = M := HM1
    have hlz : (i ++ [l + 1]).length = i.length + 1 := by simp
    have hown := ho3 hF
    obtain ⟨p1, p2⟩ := prc_last hlz
    obtain ⟨g3, cap3, rfl, x1, x2, x3, x4⟩ := own_blk2 hown (by omega)
    rw [hlz] at hown p1 p2
    have e0 : w3.cell? ⟨g3, i.length * 2, none⟩ = _ := (hown.cellAt (i.length * 2) (by omega)).trans p1
    have e1 : w3.cell? ⟨g3, i.length * 2 + 1, none⟩ = _ := (hown.cellAt (i.length * 2 + 1) (by omega)).trans p2
    generalize (mtx (i ++ [l + 1])).1.1 = X at *
    generalize (mtx (i ++ [l + 1])).1.2 = Y at *
    clear ho3 hown p1 p2 HM
    rw [hlz]
    go_wp2
    refine bodyPost_ret (by simp [results, Try.results64, go_sem, *]; try rfl) rfl ?_
    refine ⟨by first | rfl | simp, ?_⟩
    repeat' (first | (with_reducible exact Below.refl _ _) | (with_reducible assumption) | (with_reducible refine Below.alloc ?_ ?_ _) | (with_reducible refine Below.drew ?_) | (with_reducible refine bdrewN ?_ _) | (with_reducible refine Below.setCell ?_ ?_ _) | (with_reducible refine bthen ?_ (by assumption) ?_) | go_size)
theorem own_one1 (w : World) (o : Obj) (x : Int) : ((w.alloc o).alloc (.cells #[.int .i64 x] 2)).ownsRow (w.heap.size + 1) 2 1 (.slice (some ⟨w.heap.size + 1, 0, none⟩) 1 1) 1 (ints [x]) := by
  have h := World.ownsRow_lit (base := w.heap.size + 1) (e := 2) (size := 1) (w.alloc o) #[.int .i64 x] 1 (by rw [World.size_alloc]; omega) (by simp [maxLen]) (by simp)
  rw [World.size_alloc] at h
  exact h
set_option maxHeartbeats 2000000 in
set_option maxRecDepth 100000 in
theorem fractionAt_nil (v : Value) (w : World) (hv : Rs w 1 v 0 []) :
    Calls Try.prog 64 #[v] w (Ret w (.tuple #[.agg #[.int .i64 1, .int .i64 1], .bool true])) := by
  obtain ⟨A, c, rfl, -⟩ := id hv.1
  clear hv
  have hown := own_one1 w (.cells #[.int .i64 0, .int .i64 0] 24) 1
  have kC := convergents_any _ 1 [1] _ (Rd.of_own hown) (by decide)
  have hB0 := (Blk.new w 24 #[.int .i64 0, .int .i64 0]).alloc (.cells #[.int .i64 1] 2)
  have bel2 : Below w.heap.size w ((w.alloc (.cells #[.int .i64 0, .int .i64 0] 24)).alloc (.cells #[.int .i64 1] 2)) := ((Below.refl _ _).alloc (Nat.le_refl _) _).alloc (by rw [World.size_alloc]; omega) _
  go_enter Try.func64, Try.ntmps64
  go_wp2_with fail
  apply Calls.mono
  · with_reducible exact kC
  rintro _ w3 ⟨v3, rfl, ho3, hb_w3⟩
  have hB3 := hB0.below hb_w3 hB0.lt
  have bel3 := bthen bel2 hb_w3 bel2.size
  have d0 : w3.cell? ⟨w.heap.size, 0, none⟩ = some (.int .i64 0) := hB3.cell 0
  have d1 : w3.cell? ⟨w.heap.size, 1, none⟩ = some (.int .i64 0) := hB3.cell 1
  have d2 : w3.frozen? ⟨w.heap.size, 0, none⟩ = false := hB3.frozen 0
  have d3 : w3.frozen? ⟨w.heap.size, 1, none⟩ = false := hB3.frozen 1
  have zB := hB3.lt
  have hF : fitL [1] = true := by decide
  have hown := ho3 hF
  obtain ⟨p1, p2⟩ := prc_last (zs := [1]) (k := 0) rfl
  obtain ⟨g3, cap3, rfl, x1, x2, x3, x4⟩ := own_blk2 hown (by simp)
  have e0 : w3.cell? ⟨g3, 0, none⟩ = some (.int .i64 1) := (hown.cellAt 0 (by simp)).trans p1
  have e1 : w3.cell? ⟨g3, 1, none⟩ = some (.int .i64 1) := (hown.cellAt 1 (by simp)).trans p2
  rw [hF]
  simp only [List.length_singleton]
  clear ho3 hown p1 p2 hF
  go_wp2
  refine bodyPost_ret (by simp [results, Try.results64, go_sem, *]; try rfl) rfl ?_
  refine ⟨by first | rfl | simp, ?_⟩
  repeat' (first | (with_reducible exact Below.refl _ _) | (with_reducible assumption) | (with_reducible refine Below.alloc ?_ ?_ _) | (with_reducible refine Below.drew ?_) | (with_reducible refine bdrewN ?_ _) | (with_reducible refine Below.setCell ?_ ?_ _) | (with_reducible refine bthen ?_ (by assumption) ?_) | go_size)
set_option maxHeartbeats 2000000 in
set_option maxRecDepth 100000 in
theorem l05At_nil (v : Value) (w : World) (hv : Rs w 1 v 0 []) :
    Calls Try.prog 60 #[v] w (Ret w (.tuple #[.agg #[.int .i64 1, .int .i64 1], .bool true])) := by
  obtain ⟨A, c, rfl, -⟩ := id hv.1
  clear hv
  go_enter Try.func60, Try.ntmps60
  go_wp2
  refine bodyPost_ret (by simp [results, Try.results60, go_sem, *]; try rfl) rfl ?_
  refine ⟨by first | rfl | simp, ?_⟩
  repeat' (first | (with_reducible exact Below.refl _ _) | (with_reducible assumption) | (with_reducible refine Below.alloc ?_ ?_ _) | (with_reducible refine Below.drew ?_) | (with_reducible refine bdrewN ?_ _) | (with_reducible refine Below.setCell ?_ ?_ _) | (with_reducible refine bthen ?_ (by assumption) ?_) | go_size)
set_option maxHeartbeats 2000000 in
set_option maxRecDepth 100000 in
theorem l05At_snoc (v : Value) (i : List Int) (l : Int) (w : World) (hv : Rs w 1 v (i.length + 1) (ints (i ++ [l]))) (hl1 : -1000000000 ≤ l) (hl2 : l ≤ 1000000000) (ht : tmsB (i ++ [l + 1]) = true) :
    Calls Try.prog 60 #[v] w (Ret w (.tuple #[.agg #[.int .i64 (caM (i ++ [l + 1])).1, .int .i64 (caM (i ++ [l + 1])).2.1], .bool (caM (i ++ [l + 1])).2.2])) := by
  have hlen : i.length + 1 ≤ 60 := by have := (tms_iff.1 ht).1; rw [List.length_append, List.length_singleton] at this; omega
  obtain ⟨M, hM⟩ : ∃ M, caM (i ++ [l + 1]) = M := ⟨_, rfl⟩
  rw [hM]
  have HM := Lib.hid hM
  have HT := Lib.hid ht
  obtain ⟨A, c, rfl, -⟩ := id hv.1
  have kO := own_any _ (i.length + 1) (i ++ [l]) _ (hv.alloc (.cells #[.int .i64 0, .int .i64 0] 24)) (by omega)
  have hB0 := Blk.new w 24 #[.int .i64 0, .int .i64 0]
  have bel0 : Below w.heap.size w (w.alloc (.cells #[.int .i64 0, .int .i64 0] 24)) := (Below.refl _ _).alloc (Nat.le_refl _) _
  have hn0 : ¬ (((i.length + 1 : Nat) : Int) = 0) := by omega
  clear hM ht hv
  go_enter Try.func60, Try.ntmps60
  go_wp2_with fail
  apply Calls.mono
  · with_reducible exact kO
  rintro _ w1 ⟨v1, rfl, hown1, hb_w1⟩
  have hB1 := hB0.below hb_w1 hB0.lt
  have bel1 := bthen bel0 hb_w1 bel0.size
  obtain ⟨g, cap, rfl, ⟨hg1, hg2, hg3⟩, c1, f1, hown2⟩ := own_last i l rfl rfl hown1
  rw [World.size_alloc] at hg1
  have hst := own_changed (l + 1) hown2
  have bel2 := bel1.setCell (p := ⟨g, i.length, none⟩) (show w.heap.size ≤ g by omega) (.int .i64 (l + 1))
  have hB2 : Blk (w1.setCell ⟨g, i.length, none⟩ (.int .i64 (l + 1))) w.heap.size 24 #[.int .i64 0, .int .i64 0] := hB1.far (p := ⟨g, i.length, none⟩) (show w.heap.size ≠ g by omega) _
  have kC := l03Convergents_any _ (i.length + 1) (i ++ [l + 1]) _ (Rd.of_own hst) HT.out
  clear hB0 hB1 hown1 hown2 bel1 bel0 kO hb_w1
  go_wp2_with fail
  apply Calls.mono
  · with_reducible exact kC
  rintro _ w3 ⟨v3, rfl, ho3, hb_w3⟩
  have hB3 := hB2.below hb_w3 hB2.lt
  have bel3 := bthen bel2 hb_w3 bel2.size
  have d0 : w3.cell? ⟨w.heap.size, 0, none⟩ = some (.int .i64 0) := hB3.cell 0
  have d1 : w3.cell? ⟨w.heap.size, 1, none⟩ = some (.int .i64 0) := hB3.cell 1
  have d2 : w3.frozen? ⟨w.heap.size, 0, none⟩ = false := hB3.frozen 0
  have d3 : w3.frozen? ⟨w.heap.size, 1, none⟩ = false := hB3.frozen 1
  have zB := hB3.lt
  have HM1 := HM.out
  unfold caM at HM1
  cases hF : fitL (i ++ [l + 1])
  · rw [hF] at HM1
    obtain rfl : (0, 0, false) = M := HM1
    clear ho3 HM
    go_wp2
    refine bodyPost_ret (by simp [results, Try.results60, go_sem, *]; try rfl) rfl ?_
    refine ⟨by first | rfl | simp, ?_⟩
    repeat' (first | (with_reducible exact Below.refl _ _) | (with_reducible assumption) | (with_reducible refine Below.alloc ?_ ?_ _) | (with_reducible refine Below.drew ?_) | (with_reducible refine bdrewN ?_ _) | (with_reducible refine Below.setCell ?_ ?_ _) | (with_reducible refine bthen ?_ (by assumption) ?_) | go_size)
  · rw [hF] at HM1
    obtain rfl : ((mtx (i ++ [l + 1])).1.1, (mtx (i ++ [l + 1])).1.2, true) = M := HM1
    have hlz : (i ++ [l + 1]).length = i.length + 1 := by simp
    have hown := ho3 hF
    obtain ⟨p1, p2⟩ := prc_last hlz
    obtain ⟨g3, cap3, rfl, x1, x2, x3, x4⟩ := own_blk2 hown (by omega)
    rw [hlz] at hown p1 p2
    have e0 : w3.cell? ⟨g3, i.length * 2, none⟩ = _ := (hown.cellAt (i.length * 2) (by omega)).trans p1
    have e1 : w3.cell? ⟨g3, i.length * 2 + 1, none⟩ = _ := (hown.cellAt (i.length * 2 + 1) (by omega)).trans p2
    generalize (mtx (i ++ [l + 1])).1.1 = X at *
    generalize (mtx (i ++ [l + 1])).1.2 = Y at *
    clear ho3 hown p1 p2 HM
    rw [hlz]
    go_wp2
    refine bodyPost_ret (by simp [results, Try.results60, go_sem, *]; try rfl) rfl ?_
    refine ⟨by first | rfl | simp, ?_⟩
    repeat' (first | (with_reducible exact Below.refl _ _) | (with_reducible assumption) | (with_reducible refine Below.alloc ?_ ?_ _) | (with_reducible refine Below.drew ?_) | (with_reducible refine bdrewN ?_ _) | (with_reducible refine Below.setCell ?_ ?_ _) | (with_reducible refine bthen ?_ (by assumption) ?_) | go_size)
end Go.Proofs.Ytlmmpeeacjbobaa
