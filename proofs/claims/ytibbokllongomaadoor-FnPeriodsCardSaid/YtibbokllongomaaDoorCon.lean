/-
  Lists of terms: their validity in both packages; the terms of a head and a period.
-/
import Derived.Test.YtibbokllongomaaDoorApp
import Derived.Test.YtibbokllongomaaDoorFit
namespace Go.Proofs.YtibbokllongomaaDoor
open Go.RowKit

theorem vt_clos (t : Int) (w : World) : Calls Tryd.prog 101 #[.int .i64 t] w (Ret w (.bool (!inB t 1 1000000000))) := by
  have k := fun w => within_any t 1 1000000000 _ rfl w
  generalize inB t 1 1000000000 = r at *
  go_enter Tryd.func101, Tryd.ntmps101
  go_wp2_with fail
  apply Calls.mono
  · with_reducible exact k _
  rintro _ w1 ⟨rfl, hb_w1⟩
  obtain ⟨hc_w1, hf_w1, hs_w1⟩ := bcell hb_w1
  try simp at hs_w1
  go_wp2
  go_ret
  refine ⟨by first | rfl | (simp), ?_⟩
  repeat' (first | (with_reducible exact Below.refl _ _) | (with_reducible assumption) | (with_reducible refine Below.alloc ?_ ?_ _) | (with_reducible refine Below.drew ?_) | (with_reducible refine bdrewN ?_ _) | (with_reducible refine Below.setCell ?_ ?_ _) | (with_reducible refine bthen ?_ (by assumption) ?_) | go_size)
theorem sizeInts_any (A : Option Addr) (n c : Nat) (w : World) : Calls Tryd.prog 99 #[.slice A n c] w (Ret w (.int .i64 n)) := by
  go_enter Tryd.func99, Tryd.ntmps99
  go_wp2
  go_ret
  refine ⟨by first | rfl | (simp), ?_⟩
  repeat' (first | (with_reducible exact Below.refl _ _) | (with_reducible assumption) | (with_reducible refine Below.alloc ?_ ?_ _) | (with_reducible refine Below.drew ?_) | (with_reducible refine bdrewN ?_ _) | (with_reducible refine Below.setCell ?_ ?_ _) | (with_reducible refine bthen ?_ (by assumption) ?_) | go_size)
def IxR (w : World) (f : Int → Bool) (xs : List Int) (n : Nat) (k : Nat) (i : Value) (wr : World) : Prop :=
  ∃ j : Nat, j ≤ n ∧ n ≤ j + k ∧ i = .int .i64 j ∧ (∀ t x, t < j → xs[t]? = some x → f x = false) ∧ Below w.heap.size w wr
theorem anyF {α : Type} {f : α → Bool} {xs : List α} (h : ∀ t x, t < xs.length → xs[t]? = some x → f x = false) : xs.any f = false := by
  rw [List.any_eq_false]
  intro x hx
  obtain ⟨t, ht, he⟩ := List.getElem_of_mem hx
  rw [h t x ht (by rw [List.getElem?_eq_getElem ht, he])]
  decide
set_option maxHeartbeats 2000000 in
theorem indexFI_any (v fv : Value) (hfv : fv = .func (.func 101) #[] #[]) (n : Nat) (f : Int → Bool) (xs : List Int) (w : World) (hv : Rd w 1 v n (ints xs)) (hn : n ≤ 4194304)
    (hC : ∀ x, x ∈ xs → ∀ wx, Below w.heap.size w wx → Calls Tryd.prog 101 #[.int .i64 x] wx (Ret wx (.bool (f x)))) :
    Calls Tryd.prog 115 #[v, fv] w (fun e w' => ∃ i : Int, e = .returned (.int .i64 i) ∧ decide (0 ≤ i) = xs.any f ∧ Below w.heap.size w w') := by
  obtain ⟨hl1, hm1⟩ := rd_len hv
  obtain ⟨A, c, rfl, hn1, hc1, _, hr1⟩ := hv
  rw [ints_len] at hl1
  have hl : xs.length = n := by omega
  subst hfv
  have R1 := Lib.hid hr1
  have HL := Lib.hid hl
  have HC := Lib.hid hC
  clear hl1 hr1 hl hC
  go_enter Tryd.func115, Tryd.ntmps115
  go_wp2_with fail
  go_loopg [8] n (IxR w f xs n)
  case atStart => exact ⟨0, by omega, by omega, rfl, fun t x h => by omega, Below.refl _ _⟩
  case round =>
    obtain ⟨j, hj1, hj2, rfl, hall, hbw⟩ := hrel
    have HA := Lib.hid hall
    clear hall
    by_cases hjn : j < n
    · obtain ⟨y, hy⟩ := get_ex (l := xs) (k := j) (by have := HL.out; omega)
      rcases R1.out with h0 | ⟨g, o, rfl, hg, hcell⟩
      · omega
      have c1 : wr.cell? ⟨g, o + j, none⟩ = some (.int .i64 y) := (hbw.cell (p := ⟨g, o + j, none⟩) hg).trans (hcell j _ (ints_get hy))
      have hs := hbw.size
      have hgw : g < wr.heap.size := by omega
      have hjn' : (j : Int) < (n : Int) := by omega
      have kC := HC.out y (List.mem_of_getElem? hy) wr hbw
      have HY := Lib.hid hy
      cases hf : f y
      · rw [hf] at kC
        have HF := Lib.hid hf
        clear hy hcell R1 hf
        go_wp2_with fail
        apply Calls.mono
        · with_reducible exact kC
        rintro _ w1 ⟨rfl, hb_w1⟩
        go_wp2
        go_roundg (gk - 1)
        case measure => omega
        case rel =>
          refine ⟨j + 1, by omega, by omega, by go_num, ?_, bthen hbw hb_w1 hbw.size⟩
          intro t x ht hx
          by_cases e : t = j
          · subst e
            rw [HY.out] at hx
            injection hx with hx
            rw [← hx]; exact HF.out
          · exact HA.out t x (by omega) hx
      · rw [hf] at kC
        have hany : xs.any f = true := List.any_eq_true.2 ⟨y, List.mem_of_getElem? hy, hf⟩
        have HN := Lib.hid hany
        clear hy hcell R1 hf hany
        go_wp2_with fail
        apply Calls.mono
        · with_reducible exact kC
        rintro _ w1 ⟨rfl, hb_w1⟩
        go_wp2
        go_ret
        exact ⟨(j : Int), rfl, by rw [HN.out, decide_eq_true (by omega)], bthen hbw hb_w1 hbw.size⟩
    · go_wp2
      go_ret
      refine ⟨-1, rfl, ?_, hbw⟩
      rw [anyF (fun t x ht hx => HA.out t x (by have := HL.out; omega) hx)]
      rfl
theorem containsFI_any (v fv : Value) (hfv : fv = .func (.func 101) #[] #[]) (n : Nat) (f : Int → Bool) (xs : List Int) (w : World) (hv : Rd w 1 v n (ints xs)) (hn : n ≤ 4194304)
    (hC : ∀ x, x ∈ xs → ∀ wx, Below w.heap.size w wx → Calls Tryd.prog 101 #[.int .i64 x] wx (Ret wx (.bool (f x)))) (r : Bool) (hr : xs.any f = r) :
    Calls Tryd.prog 100 #[v, fv] w (Ret w (.bool r)) := by
  subst hr
  subst hfv
  have kI := indexFI_any v _ rfl n f xs w hv hn hC
  generalize xs.any f = r at *
  clear hC hv
  go_enter Tryd.func100, Tryd.ntmps100
  go_wp2_with fail
  apply Calls.mono
  · with_reducible exact kI
  rintro _ w1 ⟨i, rfl, hi, hb_w1⟩
  subst hi
  go_wp2
  go_ret
  exact ⟨rfl, hb_w1⟩
theorem rd_drop1 {w : World} {g o n c : Nat} {z : Int} {zs : List Int} (h : Rd w 1 (.slice (some ⟨g, o, none⟩) n c) n (ints (z :: zs))) : Rd w 1 (.slice (some ⟨g, o + 1, none⟩) (n - 1) (c - 1)) (n - 1) (ints zs) := by
  obtain ⟨A, c', hv, hn, hc, hl, hr⟩ := h
  injection hv with h1 _ h3
  subst h1 h3
  rw [ints_len, List.length_cons] at hl
  refine ⟨_, _, rfl, by omega, by omega, by rw [ints_len]; omega, ?_⟩
  rcases hr with h0 | ⟨g', o', hA, hg, hcell⟩
  · omega
  · injection hA with hA
    injection hA with e1 e2
    subst e1 e2
    refine .inr ⟨g, o + 1, rfl, hg, fun j u hu => ?_⟩
    have := hcell (j + 1) u (by simpa [ints] using hu)
    rw [← this, show o + 1 + j = o + (j + 1) by omega]
theorem rd_stay {w : World} {n : Nat} {A : Option Addr} {z : Int} {zs : List Int} (h : Rd w 1 (.slice A n 1) n (ints (z :: zs))) : Rd w 1 (.slice A (n - 1) 0) (n - 1) (ints zs) := by
  obtain ⟨A', c', hv, hn, hc, hl, hr⟩ := h
  injection hv with _ _ h3
  subst h3
  rw [ints_len, List.length_cons] at hl
  exact ⟨_, _, rfl, by omega, by omega, by rw [ints_len]; omega, .inl (by omega)⟩
set_option maxHeartbeats 1000000 in
theorem validTerms_any (v : Value) (n : Nat) (zs : List Int) (w : World) (hv : Rd w 1 v n (ints zs)) (hn : n ≤ 4194304) (r : Bool) (hr : tmsB zs = r) :
    Calls Tryd.prog 76 #[v] w (Ret w (.bool r)) := by
  have hl : zs.length = n := by have := (rd_len hv).1; rw [ints_len] at this; omega
  obtain ⟨A, c, rfl, hn1, hc1, hl1, hr1⟩ := id hv
  have hw : inB (n : Int) 1 60 = decide (1 ≤ n ∧ n ≤ 60) := by unfold inB; rw [← Bool.decide_and]; exact decide_eq_decide.2 (by omega)
  cases hb : decide (1 ≤ n ∧ n ≤ 60)
  · rw [hb] at hw
    obtain rfl : false = r := by
      rw [← hr]
      unfold tmsB
      rw [hl, ← Bool.decide_and, hb]
      rfl
    clear hb hr hr1 hl1 hv hl
    go_enter Tryd.func76, Tryd.ntmps76
    go_wp2_with fail
    apply Calls.mono
    · with_reducible exact sizeInts_any _ _ _ _
    rintro _ w1 ⟨rfl, hb_w1⟩
    obtain ⟨hc_w1, hf_w1, hs_w1⟩ := bcell hb_w1
    try simp at hs_w1
    go_wp2_with fail
    apply Calls.mono
    · with_reducible exact within_any _ _ _ _ hw _
    rintro _ w2 ⟨rfl, hb_w2⟩
    obtain ⟨hc_w2, hf_w2, hs_w2⟩ := bcell hb_w2
    try simp at hs_w2
    go_wp2
    go_ret
    refine ⟨by first | rfl | (simp), ?_⟩
    repeat' (first | (with_reducible exact Below.refl _ _) | (with_reducible assumption) | (with_reducible refine Below.alloc ?_ ?_ _) | (with_reducible refine Below.drew ?_) | (with_reducible refine bdrewN ?_ _) | (with_reducible refine Below.setCell ?_ ?_ _) | (with_reducible refine bthen ?_ (by assumption) ?_) | go_size)
  · rw [hb] at hw
    have hb' := of_decide_eq_true hb
    obtain ⟨z, zs', rfl⟩ := List.exists_cons_of_length_pos (show 0 < zs.length by omega)
    rcases hr1 with h0 | ⟨g, o, rfl, hg, hcell⟩
    · omega
    have c0 : w.cell? ⟨g, o, none⟩ = some (.int .i64 z) := hcell 0 _ rfl
    have hr2 : (inB z (-1000000000) 1000000000 && !zs'.any fun t => !inB t 1 1000000000) = r := by
      rw [← hr]
      unfold tmsB
      rw [hl, ← Bool.decide_and, hb]
      simp [List.all_eq_not_any_not]
    cases hz : inB z (-1000000000) 1000000000
    · obtain rfl : false = r := by rw [← hr2, hz]; rfl
      clear hb hr hl1 hcell hv
      go_enter Tryd.func76, Tryd.ntmps76
      go_wp2_with fail
      apply Calls.mono
      · with_reducible exact sizeInts_any _ _ _ _
      rintro _ w1 ⟨rfl, hb_w1⟩
      obtain ⟨hc_w1, hf_w1, hs_w1⟩ := bcell hb_w1
      try simp at hs_w1
      go_wp2_with fail
      apply Calls.mono
      · with_reducible exact within_any _ _ _ _ hw _
      rintro _ w2 ⟨rfl, hb_w2⟩
      obtain ⟨hc_w2, hf_w2, hs_w2⟩ := bcell hb_w2
      try simp at hs_w2
      have g1 : g < w1.heap.size := by omega
      go_wp2_with fail
      apply Calls.mono
      · with_reducible exact within_any _ _ _ _ hz _
      rintro _ w3 ⟨rfl, hb_w3⟩
      obtain ⟨hc_w3, hf_w3, hs_w3⟩ := bcell hb_w3
      try simp at hs_w3
      go_wp2
      go_ret
      refine ⟨by first | rfl | (simp), ?_⟩
      repeat' (first | (with_reducible exact Below.refl _ _) | (with_reducible assumption) | (with_reducible refine Below.alloc ?_ ?_ _) | (with_reducible refine Below.drew ?_) | (with_reducible refine bdrewN ?_ _) | (with_reducible refine Below.setCell ?_ ?_ _) | (with_reducible refine bthen ?_ (by assumption) ?_) | go_size)
    · have hr3 : (!zs'.any fun t => !inB t 1 1000000000) = r := by rw [← hr2, hz, Bool.true_and]
      have hn0 : (1 : Int) ≤ (n : Int) := by omega
      clear hb hr hl1 hcell hr2
      by_cases hcc : c = 1
      · subst hcc
        obtain rfl : n = 1 := by omega
        have kF := fun w3 (hb : Below w.heap.size w w3) => containsFI_any _ _ rfl 0 (fun t => !inB t 1 1000000000) zs' w3 ((rd_stay hv).below hb (Nat.le_refl _)) (by omega) (fun x _ wx _ => vt_clos x wx) _ rfl
        generalize (zs'.any fun t => !inB t 1 1000000000) = q at *
        clear hv
        go_enter Tryd.func76, Tryd.ntmps76
        go_wp2_with fail
        apply Calls.mono
        · with_reducible exact sizeInts_any _ _ _ _
        rintro _ w1 ⟨rfl, hb_w1⟩
        obtain ⟨hc_w1, hf_w1, hs_w1⟩ := bcell hb_w1
        try simp at hs_w1
        go_wp2_with fail
        apply Calls.mono
        · with_reducible exact within_any 1 1 60 true rfl _
        rintro _ w2 ⟨rfl, hb_w2⟩
        obtain ⟨hc_w2, hf_w2, hs_w2⟩ := bcell hb_w2
        try simp at hs_w2
        have g1 : g < w1.heap.size := by omega
        go_wp2_with fail
        apply Calls.mono
        · with_reducible exact within_any _ _ _ _ hz _
        rintro _ w3 ⟨rfl, hb_w3⟩
        obtain ⟨hc_w3, hf_w3, hs_w3⟩ := bcell hb_w3
        try simp at hs_w3
        go_wp2_with fail
        apply Calls.mono
        · with_reducible exact kF w3 (bthen (bthen hb_w1 hb_w2 (by omega)) hb_w3 (by omega))
        rintro _ w4 ⟨rfl, hb_w4⟩
        obtain ⟨hc_w4, hf_w4, hs_w4⟩ := bcell hb_w4
        try simp at hs_w4
        go_wp2
        go_ret
        refine ⟨by first | rfl | ((exact hr3)), ?_⟩
        repeat' (first | (with_reducible exact Below.refl _ _) | (with_reducible assumption) | (with_reducible refine Below.alloc ?_ ?_ _) | (with_reducible refine Below.drew ?_) | (with_reducible refine bdrewN ?_ _) | (with_reducible refine Below.setCell ?_ ?_ _) | (with_reducible refine bthen ?_ (by assumption) ?_) | go_size)
      · have kF := fun w3 (hb : Below w.heap.size w w3) => containsFI_any _ _ rfl (n - 1) (fun t => !inB t 1 1000000000) zs' w3 ((rd_drop1 hv).below hb (Nat.le_refl _)) (by omega) (fun x _ wx _ => vt_clos x wx) _ rfl
        generalize (zs'.any fun t => !inB t 1 1000000000) = q at *
        clear hv
        go_enter Tryd.func76, Tryd.ntmps76
        go_wp2_with fail
        apply Calls.mono
        · with_reducible exact sizeInts_any _ _ _ _
        rintro _ w1 ⟨rfl, hb_w1⟩
        obtain ⟨hc_w1, hf_w1, hs_w1⟩ := bcell hb_w1
        try simp at hs_w1
        go_wp2_with fail
        apply Calls.mono
        · with_reducible exact within_any _ _ _ _ hw _
        rintro _ w2 ⟨rfl, hb_w2⟩
        obtain ⟨hc_w2, hf_w2, hs_w2⟩ := bcell hb_w2
        try simp at hs_w2
        have g1 : g < w1.heap.size := by omega
        go_wp2_with fail
        apply Calls.mono
        · with_reducible exact within_any _ _ _ _ hz _
        rintro _ w3 ⟨rfl, hb_w3⟩
        obtain ⟨hc_w3, hf_w3, hs_w3⟩ := bcell hb_w3
        try simp at hs_w3
        go_wp2_with fail
        apply Calls.mono
        · with_reducible exact kF w3 (bthen (bthen hb_w1 hb_w2 (by omega)) hb_w3 (by omega))
        rintro _ w4 ⟨rfl, hb_w4⟩
        obtain ⟨hc_w4, hf_w4, hs_w4⟩ := bcell hb_w4
        try simp at hs_w4
        go_wp2
        go_ret
        refine ⟨by first | rfl | ((exact hr3)), ?_⟩
        repeat' (first | (with_reducible exact Below.refl _ _) | (with_reducible assumption) | (with_reducible refine Below.alloc ?_ ?_ _) | (with_reducible refine Below.drew ?_) | (with_reducible refine bdrewN ?_ _) | (with_reducible refine Below.setCell ?_ ?_ _) | (with_reducible refine bthen ?_ (by assumption) ?_) | go_size)
theorem new2 (w : World) (t : TypeId) (x y : Value) : (w.alloc (.cells #[x, y] t)).cell? ⟨w.heap.size, 0, none⟩ = some x ∧ (w.alloc (.cells #[x, y] t)).cell? ⟨w.heap.size, 1, none⟩ = some y :=
  ⟨cell_of_row _ _ 0 #[x, y] t (0, 0) (heap_alloc_new w _), cell_of_row _ _ 1 #[x, y] t (0, 0) (heap_alloc_new w _)⟩
set_option maxHeartbeats 1000000 in
theorem arePeriodic_any (v1 v2 : Value) (n1 n2 : Nat) (hs ls : List Int) (w : World) (h1 : Rs w 1 v1 n1 (ints hs)) (h2 : Rs w 1 v2 n2 (ints ls)) (b1 : n1 ≤ 1048576) (b2 : n2 ≤ 1048576) (r : Bool) (hr : pdB hs ls = r) :
    Calls Tryd.prog 39 #[v1, v2] w (Ret w (.bool r)) := by
  have l1 : hs.length = n1 := by have := (rd_len h1.1).1; rw [ints_len] at this; omega
  have l2 : ls.length = n2 := by have := (rd_len h2.1).1; rw [ints_len] at this; omega
  have hu : pdB hs ls = (decide (1 ≤ ls.length) && decide (1 ≤ ls.getD 0 0) && tmsB (hs ++ ls)) := rfl
  obtain ⟨A1, k1, rfl, _⟩ := id h1.1
  obtain ⟨A2, k2, rfl, _, _, _, hr2⟩ := id h2.1
  by_cases h0 : n2 = 0
  · subst h0
    obtain rfl : ls = [] := List.length_eq_zero_iff.1 l2
    obtain rfl : false = r := by rw [← hr, hu]; rfl
    clear h1 h2 l1 l2 hu hr hr2
    go_enter Tryd.func39, Tryd.ntmps39
    go_wp2
    go_ret
    refine ⟨by first | rfl | (simp), ?_⟩
    repeat' (first | (with_reducible exact Below.refl _ _) | (with_reducible assumption) | (with_reducible refine Below.alloc ?_ ?_ _) | (with_reducible refine Below.drew ?_) | (with_reducible refine bdrewN ?_ _) | (with_reducible refine Below.setCell ?_ ?_ _) | (with_reducible refine bthen ?_ (by assumption) ?_) | go_size)
  · rcases hr2 with e | ⟨g, o, rfl, hg, hcell⟩
    · omega
    obtain ⟨z, zs, rfl⟩ := List.exists_cons_of_length_pos (show 0 < ls.length by omega)
    have c0 : w.cell? ⟨g, o, none⟩ = some (.int .i64 z) := hcell 0 _ rfl
    have hn2 : (0 : Int) < (n2 : Int) := by omega
    have hu' : (decide (1 ≤ z) && tmsB (hs ++ z :: zs)) = r := by rw [← hr, hu]; simp
    clear hu hr hcell
    by_cases hz : 1 ≤ z
    · have hu2 : tmsB (hs ++ z :: zs) = r := by rw [← hu', decide_eq_true hz, Bool.true_and]
      clear hu'
      have b3 : n1 + n2 ≤ 4194304 := by omega
      have H1 := Lib.hid (h1.alloc (.cells #[.slice A1 n1 k1, .slice (some ⟨g, o, none⟩) n2 k2] 24))
      have H2 := Lib.hid (h2.alloc (.cells #[.slice A1 n1 k1, .slice (some ⟨g, o, none⟩) n2 k2] 24))
      have hB : w.heap.size < (w.alloc (.cells #[.slice A1 n1 k1, .slice (some ⟨g, o, none⟩) n2 k2] 24)).heap.size := by rw [World.size_alloc]; omega
      have hc := new2 w 24 (.slice A1 n1 k1) (.slice (some ⟨g, o, none⟩) n2 k2)
      have kC := concat_any w.heap.size _ _ n1 n2 hs (z :: zs) _ H1.out H2.out b1 b2 hB hc.1 hc.2
      clear h1 h2 l1 l2
      go_enter Tryd.func39, Tryd.ntmps39
      go_wp2_with fail
      apply Calls.mono
      · with_reducible exact kC
      rintro _ w1 ⟨v, rfl, hown, hb_w1⟩
      have hs1 := hb_w1.size
      rw [World.size_alloc] at hs1
      have kV := fun w' (hb : Below w1.heap.size w1 w') => validTerms_any v (n1 + n2) (hs ++ z :: zs) w' ((Rd.of_own hown).below hb (Nat.le_refl _)) b3 r hu2
      go_wp2_with fail
      apply Calls.mono
      · with_reducible exact kV _ (Below.refl _ _)
      rintro _ w2 ⟨rfl, hb_w2⟩
      obtain ⟨hc_w2, hf_w2, hs_w2⟩ := bcell hb_w2
      try simp at hs_w2
      go_wp2
      go_ret
      refine ⟨by first | rfl | (simp), ?_⟩
      repeat' (first | (with_reducible exact Below.refl _ _) | (with_reducible assumption) | (with_reducible refine Below.alloc ?_ ?_ _) | (with_reducible refine Below.drew ?_) | (with_reducible refine bdrewN ?_ _) | (with_reducible refine Below.setCell ?_ ?_ _) | (with_reducible refine bthen ?_ (by assumption) ?_) | go_size)
    · obtain rfl : false = r := by rw [← hu', decide_eq_false hz, Bool.false_and]
      clear hu' h1 h2 l1 l2
      go_enter Tryd.func39, Tryd.ntmps39
      go_wp2
      go_ret
      refine ⟨by first | rfl | (simp), ?_⟩
      repeat' (first | (with_reducible exact Below.refl _ _) | (with_reducible assumption) | (with_reducible refine Below.alloc ?_ ?_ _) | (with_reducible refine Below.drew ?_) | (with_reducible refine bdrewN ?_ _) | (with_reducible refine Below.setCell ?_ ?_ _) | (with_reducible refine bthen ?_ (by assumption) ?_) | go_size)
end Go.Proofs.YtibbokllongomaaDoor
