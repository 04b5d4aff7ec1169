/-
  Periods that have a surd in common: both packages' ways.
-/
import Derived.Test.YtkjakgemjhbfoaaSame
import Derived.Test.YtkjakgemjhbfoaaCyc
namespace Go.Proofs.Ytkjakgemjhbfoaa
open Go.RowKit

def stM (p d q p2 d2 q2 : Int) : Bool × Int :=
  if okS p d q && okS p2 d2 q2 then (match wk d (p, q), wk d2 (p2, q2) with
    | some (j, m), some (j2, _) => (((osn (orb d (p, q)) m).drop j).any (fun x => eqN d x d2 (orb d2 (p2, q2) j2)), 0)
    | _, _ => (false, 5)) else (false, 1)
set_option maxHeartbeats 2000000 in
theorem same_clos (d1 p1 q1 d2 p2 q2 : Int) (h1 : okS p1 d1 q1 = true) (h2 : okS p2 d2 q2 = true) (B g of n c : Nat) (w : World) (hB : w.cell? ⟨B, 0, none⟩ = some (.slice (some ⟨g, of, none⟩) n c)) (hn : 1 ≤ n) (hBl : B < w.heap.size) (hg : g < w.heap.size)
    (e1 : w.cell? ⟨g, of, none⟩ = some (.int .i64 p2)) (e2 : w.cell? ⟨g, of + 1, none⟩ = some (.int .i64 d2)) (e3 : w.cell? ⟨g, of + 2, none⟩ = some (.int .i64 q2)) :
    Calls Try.prog 69 #[.agg #[.int .i64 p1, .int .i64 d1, .int .i64 q1], .pointer (some ⟨B, 0, none⟩)] w (Ret w (.bool (eqN d1 (p1, q1) d2 (p2, q2)))) := by
  have k := fun w => sameNumber_any d1 p1 q1 d2 p2 q2 h1 h2 _ rfl w
  generalize eqN d1 (p1, q1) d2 (p2, q2) = r at *
  have hn' : (0 : Int) < (n : Int) := by omega
  have hn2 : 0 < n := by omega
  clear h1 h2
  go_enter Try.func69, Try.ntmps69
  go_wp2_with fail
  refine wp_region_calm (by kernel_rfl) (by kernel_rfl) ?_
  repeat (go_big_quiet_step ((with_reducible exact calm (k _))))
  refine wpQuiet_nil ?_
  intro w1 hb_w1
  obtain ⟨hc_w1, hf_w1, hs_w1⟩ := bcell hb_w1
  try simp at hs_w1
  have hz_w1_w0 : w.heap.size < w1.heap.size := by omega
  have hy_w1_w0 : w.heap.size ≤ w1.heap.size := by omega
  have hx_w1_w0 : ∀ n : Nat, w.heap.size < w1.heap.size + n := by intro n; omega
  have hv_w1_w0 : ∀ n : Nat, w.heap.size ≤ w1.heap.size + n := by intro n; omega
  go_wp2
  go_ret
  refine ⟨by first | rfl | (simp), ?_⟩
  repeat' (first | (with_reducible exact Below.refl _ _) | (with_reducible assumption) | (with_reducible refine Below.alloc ?_ ?_ _) | (with_reducible refine Below.drew ?_) | (with_reducible refine bdrewN ?_ _) | (with_reducible refine Below.setCell ?_ ?_ _) | (with_reducible refine bthen ?_ (by assumption) ?_) | go_size)
def IdfR (w : World) (f : Int × Int → Bool) (xs : List (Int × Int)) (n : Nat) (k : Nat) (i : Value) (wr : World) : Prop :=
  ∃ j : Nat, j ≤ n ∧ n ≤ j + k ∧ i = .int .i64 j ∧ (∀ t x, t < j → xs[t]? = some x → f x = false) ∧ Below w.heap.size w wr
theorem any_false {f : Int × Int → Bool} {xs : List (Int × Int)} (h : ∀ t x, t < xs.length → xs[t]? = some x → f x = false) : xs.any f = false := by
  rw [List.any_eq_false]
  intro x hx
  obtain ⟨t, ht, he⟩ := List.getElem_of_mem hx
  rw [h t x ht (by rw [List.getElem?_eq_getElem ht, he])]
  decide
set_option maxHeartbeats 2000000 in
theorem indexFunc_any (v fv : Value) (B : Nat) (hfv : fv = .func (.func 69) #[] #[.pointer (some ⟨B, 0, none⟩)]) (n : Nat) (d : Int) (f : Int × Int → Bool) (xs : List (Int × Int)) (w : World) (hv : Rd w 3 v n (srd d xs)) (hn : n ≤ 1000)
    (hC : ∀ x, x ∈ xs → ∀ wx, Below w.heap.size w wx → Calls Try.prog 69 #[.agg #[.int .i64 x.1, .int .i64 d, .int .i64 x.2], .pointer (some ⟨B, 0, none⟩)] wx (Ret wx (.bool (f x)))) :
    Calls Try.prog 97 #[v, fv] w (fun e w' => ∃ i : Int, e = .returned (.int .i64 i) ∧ decide (0 ≤ i) = xs.any f ∧ Below w.heap.size w w') := by
  obtain ⟨hl1, hm1⟩ := rd_len hv
  obtain ⟨A, c, rfl, hn1, hc1, _, hr1⟩ := hv
  rw [srd_len] at hl1
  have hl : xs.length = n := by omega
  subst hfv
  have R1 := Lib.hid hr1
  have HL := Lib.hid hl
  have HC := Lib.hid hC
  clear hl1 hr1 hl hC
  go_enter Try.func97, Try.ntmps97
  go_wp2_with fail
  go_loopg [8] n (IdfR w f xs n)
  case atStart => exact ⟨0, by omega, by omega, rfl, fun t x h => by omega, Below.refl _ _⟩
  case round =>
    obtain ⟨j, hj1, hj2, rfl, hall, hbw⟩ := hrel
    have HA := Lib.hid hall
    clear hall
    by_cases hjn : j < n
    · obtain ⟨⟨y1, y2⟩, hy⟩ := get_ex (l := xs) (k := j) (by have := HL.out; omega)
      rcases R1.out with h0 | ⟨g, o, rfl, hg, hcell⟩
      · omega
      obtain ⟨e1, e2, e3⟩ := srd_get (d := d) hy
      have c1 : wr.cell? ⟨g, o + j * 3, none⟩ = some (.int .i64 y1) := (hbw.cell (p := ⟨g, o + j * 3, none⟩) hg).trans (hcell (j * 3) _ e1)
      have c2 : wr.cell? ⟨g, o + j * 3 + 1, none⟩ = some (.int .i64 d) := (hbw.cell (p := ⟨g, o + j * 3 + 1, none⟩) hg).trans (hcell (j * 3 + 1) _ e2)
      have c3 : wr.cell? ⟨g, o + j * 3 + 2, none⟩ = some (.int .i64 y2) := (hbw.cell (p := ⟨g, o + j * 3 + 2, none⟩) hg).trans (hcell (j * 3 + 2) _ e3)
      have hs := hbw.size
      have hgw : g < wr.heap.size := by omega
      have hjn' : (j : Int) < (n : Int) := by omega
      have kC := HC.out (y1, y2) (List.mem_of_getElem? hy) wr hbw
      have HY := Lib.hid hy
      simp only at kC
      cases hf : f (y1, y2)
      · rw [hf] at kC
        have HF := Lib.hid hf
        clear hy hcell R1 e1 e2 e3 hf
        go_wp2_with fail
        apply Calls.mono
        · with_reducible exact kC
        rintro _ w1 ⟨rfl, hb_w1⟩
        go_wp2
        go_roundg (gk - 1)
        case measure => omega
        case rel =>
          refine ⟨j + 1, by omega, by omega, by go_num, ?_, bthen hbw hb_w1 hbw.size⟩
          intro t x ht hx
          by_cases e : t = j
          · subst e
            rw [HY.out] at hx
            injection hx with hx
            rw [← hx]; exact HF.out
          · exact HA.out t x (by omega) hx
      · rw [hf] at kC
        have hany : xs.any f = true := List.any_eq_true.2 ⟨(y1, y2), List.mem_of_getElem? hy, hf⟩
        have HN := Lib.hid hany
        clear hy hcell R1 e1 e2 e3 hf hany
        go_wp2_with fail
        apply Calls.mono
        · with_reducible exact kC
        rintro _ w1 ⟨rfl, hb_w1⟩
        go_wp2
        go_ret
        exact ⟨(j : Int), rfl, by rw [HN.out, decide_eq_true (by omega)], bthen hbw hb_w1 hbw.size⟩
    · go_wp2
      go_ret
      refine ⟨-1, rfl, ?_, hbw⟩
      rw [any_false (fun t x ht hx => HA.out t x (by have := HL.out; omega) hx)]
      rfl
set_option maxHeartbeats 2000000 in
theorem containsFunc_any (v fv : Value) (B : Nat) (hfv : fv = .func (.func 69) #[] #[.pointer (some ⟨B, 0, none⟩)]) (n : Nat) (d : Int) (f : Int × Int → Bool) (xs : List (Int × Int)) (w : World) (hv : Rd w 3 v n (srd d xs)) (hn : n ≤ 1000)
    (hC : ∀ x, x ∈ xs → ∀ wx, Below w.heap.size w wx → Calls Try.prog 69 #[.agg #[.int .i64 x.1, .int .i64 d, .int .i64 x.2], .pointer (some ⟨B, 0, none⟩)] wx (Ret wx (.bool (f x)))) :
    Calls Try.prog 68 #[v, fv] w (Ret w (.bool (xs.any f))) := by
  subst hfv
  have kI := indexFunc_any v _ B rfl n d f xs w hv hn hC
  generalize xs.any f = r at *
  clear hC hv
  go_enter Try.func68, Try.ntmps68
  go_wp2_with fail
  apply Calls.mono
  · with_reducible exact kI
  rintro _ w1 ⟨i, rfl, hi, hb_w1⟩
  subst hi
  go_wp2
  go_ret
  exact ⟨rfl, hb_w1⟩
theorem st_bad1 {p d q p2 d2 q2 : Int} (h : okS p d q = false) : stM p d q p2 d2 q2 = (false, 1) := by unfold stM; rw [h]; rfl
theorem st_bad2 {p d q p2 d2 q2 : Int} (h1 : okS p d q = true) (h : okS p2 d2 q2 = false) : stM p d q p2 d2 q2 = (false, 1) := by unfold stM; rw [h1, h]; rfl
theorem st_n1 {p d q p2 d2 q2 : Int} (h1 : okS p d q = true) (h2 : okS p2 d2 q2 = true) (h : wk d (p, q) = none) : stM p d q p2 d2 q2 = (false, 5) := by unfold stM; rw [h1, h2, h]; rfl
theorem st_n2 {p d q p2 d2 q2 : Int} {z : Nat × Nat} (h1 : okS p d q = true) (h2 : okS p2 d2 q2 = true) (h : wk d (p, q) = some z) (h3 : wk d2 (p2, q2) = none) : stM p d q p2 d2 q2 = (false, 5) := by unfold stM; rw [h1, h2, h, h3]; rfl
theorem st_some {p d q p2 d2 q2 : Int} {j m j2 m2 : Nat} (h1 : okS p d q = true) (h2 : okS p2 d2 q2 = true) (h : wk d (p, q) = some (j, m)) (h3 : wk d2 (p2, q2) = some (j2, m2)) :
    stM p d q p2 d2 q2 = (((osn (orb d (p, q)) m).drop j).any (fun x => eqN d x d2 (orb d2 (p2, q2) j2)), 0) := by unfold stM; rw [h1, h2, h, h3]; rfl
theorem osn_mem {o : Nat → Int × Int} {m j : Nat} {x : Int × Int} (h : x ∈ (osn o m).drop j) : ∃ k, k < m ∧ x = o k := by
  have h := List.mem_of_mem_drop h
  simp only [osn, List.mem_map, List.mem_range] at h
  obtain ⟨k, hk, e⟩ := h
  exact ⟨k, hk, e.symm⟩
set_option maxRecDepth 100000 in
set_option maxHeartbeats 4000000 in
theorem sameTailI_any (p d q p2 d2 q2 : Int) (w : World) : Calls Try.prog 32 #[.agg #[.int .i64 p, .int .i64 d, .int .i64 q], .agg #[.int .i64 p2, .int .i64 d2, .int .i64 q2]] w (Ret w (.tuple #[.bool (stM p d q p2 d2 q2).1, .int .i64 (stM p d q p2 d2 q2).2])) := by
  have hmf : ∀ (fn : Fn) (first cap : Array Value) (w : World), (Instr.makeFunc fn first cap).run Try.prog w = .ok (.func fn first cap) w := fun _ _ _ _ => rfl
  cases h : okS p d q
  · rw [st_bad1 h]
    have H := Lib.hid h
    clear h
    go_enter Try.func32, Try.ntmps32
    go_wp2_with fail
    apply Calls.mono
    · with_reducible exact validSurd_any _ _ _ false H.out _
    rintro _ w1 ⟨rfl, hb_w1⟩
    obtain ⟨hc_w1, hf_w1, hs_w1⟩ := bcell hb_w1
    try simp at hs_w1
    have hz_w1_w0 : w.heap.size < w1.heap.size := by omega
    have hy_w1_w0 : w.heap.size ≤ w1.heap.size := by omega
    have hx_w1_w0 : ∀ n : Nat, w.heap.size < w1.heap.size + n := by intro n; omega
    have hv_w1_w0 : ∀ n : Nat, w.heap.size ≤ w1.heap.size + n := by intro n; omega
    have hz_w1_w1 : w.heap.size + 1 < w1.heap.size := by omega
    have hy_w1_w1 : w.heap.size + 1 ≤ w1.heap.size := by omega
    have hx_w1_w1 : ∀ n : Nat, w.heap.size + 1 < w1.heap.size + n := by intro n; omega
    have hv_w1_w1 : ∀ n : Nat, w.heap.size + 1 ≤ w1.heap.size + n := by intro n; omega
    go_wp2
    go_ret2
    refine ⟨by first | rfl | (simp), ?_⟩
    repeat' (first | (with_reducible exact Below.refl _ _) | (with_reducible assumption) | (with_reducible refine Below.alloc ?_ ?_ _) | (with_reducible refine Below.drew ?_) | (with_reducible refine bdrewN ?_ _) | (with_reducible refine Below.setCell ?_ ?_ _) | (with_reducible refine bthen ?_ (by assumption) ?_) | go_size)
  · have H := Lib.hid h
    cases h2 : okS p2 d2 q2
    · rw [st_bad2 h h2]
      have H2 := Lib.hid h2
      clear h h2
      go_enter Try.func32, Try.ntmps32
      go_wp2_with fail
      apply Calls.mono
      · with_reducible exact validSurd_any _ _ _ true H.out _
      rintro _ w1 ⟨rfl, hb_w1⟩
      obtain ⟨hc_w1, hf_w1, hs_w1⟩ := bcell hb_w1
      try simp at hs_w1
      have hz_w1_w0 : w.heap.size < w1.heap.size := by omega
      have hy_w1_w0 : w.heap.size ≤ w1.heap.size := by omega
      have hx_w1_w0 : ∀ n : Nat, w.heap.size < w1.heap.size + n := by intro n; omega
      have hv_w1_w0 : ∀ n : Nat, w.heap.size ≤ w1.heap.size + n := by intro n; omega
      have hz_w1_w1 : w.heap.size + 1 < w1.heap.size := by omega
      have hy_w1_w1 : w.heap.size + 1 ≤ w1.heap.size := by omega
      have hx_w1_w1 : ∀ n : Nat, w.heap.size + 1 < w1.heap.size + n := by intro n; omega
      have hv_w1_w1 : ∀ n : Nat, w.heap.size + 1 ≤ w1.heap.size + n := by intro n; omega
      go_wp2_with fail
      apply Calls.mono
      · with_reducible exact validSurd_any _ _ _ false H2.out _
      rintro _ w2 ⟨rfl, hb_w2⟩
      obtain ⟨hc_w2, hf_w2, hs_w2⟩ := bcell hb_w2
      try simp at hs_w2
      have hz_w2_w0 : w.heap.size < w2.heap.size := by omega
      have hy_w2_w0 : w.heap.size ≤ w2.heap.size := by omega
      have hx_w2_w0 : ∀ n : Nat, w.heap.size < w2.heap.size + n := by intro n; omega
      have hv_w2_w0 : ∀ n : Nat, w.heap.size ≤ w2.heap.size + n := by intro n; omega
      have hz_w2_w1 : w.heap.size + 1 < w2.heap.size := by omega
      have hy_w2_w1 : w.heap.size + 1 ≤ w2.heap.size := by omega
      have hx_w2_w1 : ∀ n : Nat, w.heap.size + 1 < w2.heap.size + n := by intro n; omega
      have hv_w2_w1 : ∀ n : Nat, w.heap.size + 1 ≤ w2.heap.size + n := by intro n; omega
      go_wp2
      go_ret2
      refine ⟨by first | rfl | (simp), ?_⟩
      repeat' (first | (with_reducible exact Below.refl _ _) | (with_reducible assumption) | (with_reducible refine Below.alloc ?_ ?_ _) | (with_reducible refine Below.drew ?_) | (with_reducible refine bdrewN ?_ _) | (with_reducible refine Below.setCell ?_ ?_ _) | (with_reducible refine bthen ?_ (by assumption) ?_) | go_size)
    · have H2 := Lib.hid h2
      have k1 := fun w => cycleOfI_any p d q w
      have k2 := fun w => cycleOfI_any p2 d2 q2 w
      unfold CyP at k1 k2
      have pre : True := trivial
      cases hw : wk d (p, q) with
      | none =>
        rw [st_n1 h h2 hw]
        rw [cy_none h hw] at k1
        generalize cyM p2 d2 q2 = M2 at *
        clear h h2 hw
        go_enter Try.func32, Try.ntmps32
        go_wp2_with fail
        apply Calls.mono
        · with_reducible exact validSurd_any _ _ _ true H.out _
        rintro _ w1 ⟨rfl, hb_w1⟩
        obtain ⟨hc_w1, hf_w1, hs_w1⟩ := bcell hb_w1
        try simp at hs_w1
        have hz_w1_w0 : w.heap.size < w1.heap.size := by omega
        have hy_w1_w0 : w.heap.size ≤ w1.heap.size := by omega
        have hx_w1_w0 : ∀ n : Nat, w.heap.size < w1.heap.size + n := by intro n; omega
        have hv_w1_w0 : ∀ n : Nat, w.heap.size ≤ w1.heap.size + n := by intro n; omega
        have hz_w1_w1 : w.heap.size + 1 < w1.heap.size := by omega
        have hy_w1_w1 : w.heap.size + 1 ≤ w1.heap.size := by omega
        have hx_w1_w1 : ∀ n : Nat, w.heap.size + 1 < w1.heap.size + n := by intro n; omega
        have hv_w1_w1 : ∀ n : Nat, w.heap.size + 1 ≤ w1.heap.size + n := by intro n; omega
        go_wp2_with fail
        apply Calls.mono
        · with_reducible exact validSurd_any _ _ _ true H2.out _
        rintro _ w2 ⟨rfl, hb_w2⟩
        obtain ⟨hc_w2, hf_w2, hs_w2⟩ := bcell hb_w2
        try simp at hs_w2
        have hz_w2_w0 : w.heap.size < w2.heap.size := by omega
        have hy_w2_w0 : w.heap.size ≤ w2.heap.size := by omega
        have hx_w2_w0 : ∀ n : Nat, w.heap.size < w2.heap.size + n := by intro n; omega
        have hv_w2_w0 : ∀ n : Nat, w.heap.size ≤ w2.heap.size + n := by intro n; omega
        have hz_w2_w1 : w.heap.size + 1 < w2.heap.size := by omega
        have hy_w2_w1 : w.heap.size + 1 ≤ w2.heap.size := by omega
        have hx_w2_w1 : ∀ n : Nat, w.heap.size + 1 < w2.heap.size + n := by intro n; omega
        have hv_w2_w1 : ∀ n : Nat, w.heap.size + 1 ≤ w2.heap.size + n := by intro n; omega
        go_wp2_with fail
        apply Calls.mono
        · with_reducible exact k1 _
        rintro _ w3 ⟨v1, rfl, ho1, hb_w3⟩
        obtain ⟨hc_w3, hf_w3, hs_w3⟩ := bcell hb_w3
        try simp at hs_w3
        have hz_w3_w0 : w.heap.size < w3.heap.size := by omega
        have hy_w3_w0 : w.heap.size ≤ w3.heap.size := by omega
        have hx_w3_w0 : ∀ n : Nat, w.heap.size < w3.heap.size + n := by intro n; omega
        have hv_w3_w0 : ∀ n : Nat, w.heap.size ≤ w3.heap.size + n := by intro n; omega
        have hz_w3_w1 : w.heap.size + 1 < w3.heap.size := by omega
        have hy_w3_w1 : w.heap.size + 1 ≤ w3.heap.size := by omega
        have hx_w3_w1 : ∀ n : Nat, w.heap.size + 1 < w3.heap.size + n := by intro n; omega
        have hv_w3_w1 : ∀ n : Nat, w.heap.size + 1 ≤ w3.heap.size + n := by intro n; omega
        go_wp2_with fail
        apply Calls.mono
        · with_reducible exact k2 _
        rintro _ w4 ⟨v2, rfl, ho2, hb_w4⟩
        obtain ⟨va, vc, rfl⟩ := row_slice ho2
        have q1 := hb_w1.size
        have q2 := hb_w2.size
        have q3 := hb_w3.size
        have q4 := hb_w4.size
        rw [World.size_alloc, World.size_alloc] at q1
        have q5 : w.heap.size ≤ w4.heap.size := by omega
        go_wp2
        go_ret2
        refine ⟨by first | rfl | (simp), ?_⟩
        repeat' (first | (with_reducible exact Below.refl _ _) | (with_reducible assumption) | (with_reducible refine Below.alloc ?_ ?_ _) | (with_reducible refine Below.drew ?_) | (with_reducible refine bdrewN ?_ _) | (with_reducible refine Below.setCell ?_ ?_ _) | (with_reducible refine bthen ?_ (by assumption) ?_) | go_size)
      | some z =>
        cases hw2 : wk d2 (p2, q2) with
        | none =>
          rw [st_n2 h h2 hw hw2]
          rw [cy_some h hw] at k1
          rw [cy_none h2 hw2] at k2
          clear h h2 hw hw2
          go_enter Try.func32, Try.ntmps32
          go_wp2_with fail
          apply Calls.mono
          · with_reducible exact validSurd_any _ _ _ true H.out _
          rintro _ w1 ⟨rfl, hb_w1⟩
          obtain ⟨hc_w1, hf_w1, hs_w1⟩ := bcell hb_w1
          try simp at hs_w1
          have hz_w1_w0 : w.heap.size < w1.heap.size := by omega
          have hy_w1_w0 : w.heap.size ≤ w1.heap.size := by omega
          have hx_w1_w0 : ∀ n : Nat, w.heap.size < w1.heap.size + n := by intro n; omega
          have hv_w1_w0 : ∀ n : Nat, w.heap.size ≤ w1.heap.size + n := by intro n; omega
          have hz_w1_w1 : w.heap.size + 1 < w1.heap.size := by omega
          have hy_w1_w1 : w.heap.size + 1 ≤ w1.heap.size := by omega
          have hx_w1_w1 : ∀ n : Nat, w.heap.size + 1 < w1.heap.size + n := by intro n; omega
          have hv_w1_w1 : ∀ n : Nat, w.heap.size + 1 ≤ w1.heap.size + n := by intro n; omega
          go_wp2_with fail
          apply Calls.mono
          · with_reducible exact validSurd_any _ _ _ true H2.out _
          rintro _ w2 ⟨rfl, hb_w2⟩
          obtain ⟨hc_w2, hf_w2, hs_w2⟩ := bcell hb_w2
          try simp at hs_w2
          have hz_w2_w0 : w.heap.size < w2.heap.size := by omega
          have hy_w2_w0 : w.heap.size ≤ w2.heap.size := by omega
          have hx_w2_w0 : ∀ n : Nat, w.heap.size < w2.heap.size + n := by intro n; omega
          have hv_w2_w0 : ∀ n : Nat, w.heap.size ≤ w2.heap.size + n := by intro n; omega
          have hz_w2_w1 : w.heap.size + 1 < w2.heap.size := by omega
          have hy_w2_w1 : w.heap.size + 1 ≤ w2.heap.size := by omega
          have hx_w2_w1 : ∀ n : Nat, w.heap.size + 1 < w2.heap.size + n := by intro n; omega
          have hv_w2_w1 : ∀ n : Nat, w.heap.size + 1 ≤ w2.heap.size + n := by intro n; omega
          go_wp2_with fail
          apply Calls.mono
          · with_reducible exact k1 _
          rintro _ w3 ⟨v1, rfl, ho1, hb_w3⟩
          obtain ⟨hc_w3, hf_w3, hs_w3⟩ := bcell hb_w3
          try simp at hs_w3
          have hz_w3_w0 : w.heap.size < w3.heap.size := by omega
          have hy_w3_w0 : w.heap.size ≤ w3.heap.size := by omega
          have hx_w3_w0 : ∀ n : Nat, w.heap.size < w3.heap.size + n := by intro n; omega
          have hv_w3_w0 : ∀ n : Nat, w.heap.size ≤ w3.heap.size + n := by intro n; omega
          have hz_w3_w1 : w.heap.size + 1 < w3.heap.size := by omega
          have hy_w3_w1 : w.heap.size + 1 ≤ w3.heap.size := by omega
          have hx_w3_w1 : ∀ n : Nat, w.heap.size + 1 < w3.heap.size + n := by intro n; omega
          have hv_w3_w1 : ∀ n : Nat, w.heap.size + 1 ≤ w3.heap.size + n := by intro n; omega
          go_wp2_with fail
          apply Calls.mono
          · with_reducible exact k2 _
          rintro _ w4 ⟨v2, rfl, ho2, hb_w4⟩
          obtain ⟨va, vc, rfl⟩ := row_slice ho2
          have q1 := hb_w1.size
          have q2 := hb_w2.size
          have q3 := hb_w3.size
          have q4 := hb_w4.size
          rw [World.size_alloc, World.size_alloc] at q1
          have q5 : w.heap.size ≤ w4.heap.size := by omega
          go_wp2
          go_ret2
          refine ⟨by first | rfl | (simp), ?_⟩
          repeat' (first | (with_reducible exact Below.refl _ _) | (with_reducible assumption) | (with_reducible refine Below.alloc ?_ ?_ _) | (with_reducible refine Below.drew ?_) | (with_reducible refine bdrewN ?_ _) | (with_reducible refine Below.setCell ?_ ?_ _) | (with_reducible refine bthen ?_ (by assumption) ?_) | go_size)
        | some z2 =>
          obtain ⟨j, m⟩ := z
          obtain ⟨j2, m2⟩ := z2
          rw [st_some h h2 hw hw2]
          obtain ⟨c1, c2, _, hokA, _⟩ := wk_some hw h
          obtain ⟨c3, c4, _, hokB, _⟩ := wk_some hw2 h2
          obtain ⟨l1, _⟩ := cy_len h hw
          obtain ⟨l2, _⟩ := cy_len h2 hw2
          have hoky := hokB j2 (by omega)
          rw [cy_some h hw] at k1 l1
          rw [cy_some h2 hw2] at k2 l2
          have hg0 : ((osn (orb d2 (p2, q2)) m2).drop j2)[0]? = some (orb d2 (p2, q2) j2) := by
            rw [List.getElem?_drop, Nat.add_zero]
            exact osn_get _ _ _ c3
          have hmem : ∀ x, x ∈ (osn (orb d (p, q)) m).drop j → okX d x = true := by
            intro x hx
            obtain ⟨k, hk, rfl⟩ := osn_mem hx
            exact hokA k (by omega)
          simp only at k1 k2 l1 l2
          generalize (osn (orb d (p, q)) m).drop j = xs at *
          generalize (osn (orb d2 (p2, q2)) m2).drop j2 = ys at *
          generalize orb d2 (p2, q2) j2 = y at *
          obtain ⟨y1, y2⟩ := y
          obtain ⟨b, hb⟩ : ∃ b, xs.any (fun x => eqN d x d2 (y1, y2)) = b := ⟨_, rfl⟩
          rw [hb]
          have HB := Lib.hid hb
          have HM := Lib.hid hmem
          have hlx : xs.length ≤ 400 := by omega
          have hly : 1 ≤ ys.length := by omega
          clear h h2 hw hw2 hokA hokB hb hmem l1 l2
          go_enter Try.func32, Try.ntmps32
          go_wp2_with fail
          apply Calls.mono
          · with_reducible exact validSurd_any _ _ _ true H.out _
          rintro _ w1 ⟨rfl, hb_w1⟩
          obtain ⟨hc_w1, hf_w1, hs_w1⟩ := bcell hb_w1
          try simp at hs_w1
          have hz_w1_w0 : w.heap.size < w1.heap.size := by omega
          have hy_w1_w0 : w.heap.size ≤ w1.heap.size := by omega
          have hx_w1_w0 : ∀ n : Nat, w.heap.size < w1.heap.size + n := by intro n; omega
          have hv_w1_w0 : ∀ n : Nat, w.heap.size ≤ w1.heap.size + n := by intro n; omega
          have hz_w1_w1 : w.heap.size + 1 < w1.heap.size := by omega
          have hy_w1_w1 : w.heap.size + 1 ≤ w1.heap.size := by omega
          have hx_w1_w1 : ∀ n : Nat, w.heap.size + 1 < w1.heap.size + n := by intro n; omega
          have hv_w1_w1 : ∀ n : Nat, w.heap.size + 1 ≤ w1.heap.size + n := by intro n; omega
          go_wp2_with fail
          apply Calls.mono
          · with_reducible exact validSurd_any _ _ _ true H2.out _
          rintro _ w2 ⟨rfl, hb_w2⟩
          obtain ⟨hc_w2, hf_w2, hs_w2⟩ := bcell hb_w2
          try simp at hs_w2
          have hz_w2_w0 : w.heap.size < w2.heap.size := by omega
          have hy_w2_w0 : w.heap.size ≤ w2.heap.size := by omega
          have hx_w2_w0 : ∀ n : Nat, w.heap.size < w2.heap.size + n := by intro n; omega
          have hv_w2_w0 : ∀ n : Nat, w.heap.size ≤ w2.heap.size + n := by intro n; omega
          have hz_w2_w1 : w.heap.size + 1 < w2.heap.size := by omega
          have hy_w2_w1 : w.heap.size + 1 ≤ w2.heap.size := by omega
          have hx_w2_w1 : ∀ n : Nat, w.heap.size + 1 < w2.heap.size + n := by intro n; omega
          have hv_w2_w1 : ∀ n : Nat, w.heap.size + 1 ≤ w2.heap.size + n := by intro n; omega
          go_wp2_with fail
          apply Calls.mono
          · with_reducible exact k1 _
          rintro _ w3 ⟨v1, rfl, ho1, hb_w3⟩
          obtain ⟨hc_w3, hf_w3, hs_w3⟩ := bcell hb_w3
          try simp at hs_w3
          have hz_w3_w0 : w.heap.size < w3.heap.size := by omega
          have hy_w3_w0 : w.heap.size ≤ w3.heap.size := by omega
          have hx_w3_w0 : ∀ n : Nat, w.heap.size < w3.heap.size + n := by intro n; omega
          have hv_w3_w0 : ∀ n : Nat, w.heap.size ≤ w3.heap.size + n := by intro n; omega
          have hz_w3_w1 : w.heap.size + 1 < w3.heap.size := by omega
          have hy_w3_w1 : w.heap.size + 1 ≤ w3.heap.size := by omega
          have hx_w3_w1 : ∀ n : Nat, w.heap.size + 1 < w3.heap.size + n := by intro n; omega
          have hv_w3_w1 : ∀ n : Nat, w.heap.size + 1 ≤ w3.heap.size + n := by intro n; omega
          go_wp2_with fail
          apply Calls.mono
          · with_reducible exact k2 _
          rintro _ w4 ⟨v2, rfl, ho2, hb_w4⟩
          obtain ⟨A, c, rfl, hn1, hc1, _, hr1⟩ := Rd.of_own ho2
          rcases hr1 with h | ⟨g, of, rfl, hg, hcell⟩
          · omega
          obtain ⟨e1, e2, e3⟩ := srd_get (d := d2) hg0
          have q1 := hb_w1.size
          have q2 := hb_w2.size
          have q3 := hb_w3.size
          have q4 := hb_w4.size
          have ho1' := (own_below ho1 hb_w4 (Nat.le_refl _)).alloc (.cells #[.slice (some ⟨g, of, none⟩) ys.length c] 52)
          have hBk := Blk.new w4 52 #[.slice (some ⟨g, of, none⟩) ys.length c]
          have bel4 : Below w.heap.size w w4 := by repeat' (first | (with_reducible exact Below.refl _ _) | (with_reducible assumption) | (with_reducible refine Below.alloc ?_ ?_ _) | (with_reducible refine Below.drew ?_) | (with_reducible refine bdrewN ?_ _) | (with_reducible refine Below.setCell ?_ ?_ _) | (with_reducible refine bthen ?_ (by assumption) ?_) | go_size)
          have g1 : (w4.alloc (.cells #[.slice (some ⟨g, of, none⟩) ys.length c] 52)).cell? ⟨g, of, none⟩ = some (.int .i64 y1) := (World.cell?_alloc_lt w4 _ _ hg).trans (hcell 0 _ e1)
          have g2 : (w4.alloc (.cells #[.slice (some ⟨g, of, none⟩) ys.length c] 52)).cell? ⟨g, of + 1, none⟩ = some (.int .i64 d2) := (World.cell?_alloc_lt w4 _ _ hg).trans (hcell 1 _ e2)
          have g3 : (w4.alloc (.cells #[.slice (some ⟨g, of, none⟩) ys.length c] 52)).cell? ⟨g, of + 2, none⟩ = some (.int .i64 y2) := (World.cell?_alloc_lt w4 _ _ hg).trans (hcell 2 _ e3)
          have hC : ∀ x, x ∈ xs → ∀ wx, Below (w4.alloc (.cells #[.slice (some ⟨g, of, none⟩) ys.length c] 52)).heap.size (w4.alloc (.cells #[.slice (some ⟨g, of, none⟩) ys.length c] 52)) wx → Calls Try.prog 69 #[.agg #[.int .i64 x.1, .int .i64 d, .int .i64 x.2], .pointer (some ⟨w4.heap.size, 0, none⟩)] wx (Ret wx (.bool (eqN d x d2 (y1, y2)))) := by
            intro x hx wx hbx
            have hbs := hbx.size
            rw [World.size_alloc] at hbs
            have hgz : g < (w4.alloc (.cells #[.slice (some ⟨g, of, none⟩) ys.length c] 52)).heap.size := by rw [World.size_alloc]; omega
            exact same_clos d x.1 x.2 d2 y1 y2 (HM.out x hx) hoky w4.heap.size g of ys.length c wx ((hBk.below hbx hBk.lt).cell 0) (by omega) (by omega) (by omega) ((hbx.cell (p := ⟨g, of, none⟩) hgz).trans g1) ((hbx.cell (p := ⟨g, of + 1, none⟩) hgz).trans g2) ((hbx.cell (p := ⟨g, of + 2, none⟩) hgz).trans g3)
          have kF := containsFunc_any v1 (.func (.func 69) #[] #[.pointer (some ⟨w4.heap.size, 0, none⟩)]) w4.heap.size rfl xs.length d _ xs _ (Rd.of_own ho1') (by omega) hC
          rw [HB.out] at kF
          clear hC g1 g2 g3 hcell e1 e2 e3 hg0 ho1' ho1 ho2 k1 k2 hBk
          go_wp2_with fail
          apply Calls.mono
          · with_reducible exact kF
          rintro _ w5 ⟨rfl, hb_w5⟩
          have bel5 := bthen (bel4.alloc bel4.size _) hb_w5 (by rw [World.size_alloc]; omega)
          go_wp2
          go_ret2
          exact ⟨rfl, bel5⟩
def StR (w : World) (f : Int × Int → Bool) (o : Nat → Int × Int) (j m : Nat) (k : Nat) (i : Value) (wr : World) : Prop :=
  ∃ t : Nat, j ≤ t ∧ t ≤ m ∧ m ≤ t + k ∧ i = .int .i64 t ∧ (∀ u, j ≤ u → u < t → f (o u) = false) ∧ Below w.heap.size w wr
theorem any_osn_false {f : Int × Int → Bool} {o : Nat → Int × Int} {j m : Nat} (h : ∀ u, j ≤ u → u < m → f (o u) = false) : ((osn o m).drop j).any f = false := by
  refine any_false ?_
  intro t x ht hx
  rw [List.length_drop, osn_len] at ht
  rw [List.getElem?_drop, osn_get o m (j + t) (by omega)] at hx
  injection hx with hx
  rw [← hx]
  exact h (j + t) (by omega) (by omega)
theorem any_osn_true {f : Int × Int → Bool} {o : Nat → Int × Int} {j m t : Nat} (h1 : j ≤ t) (h2 : t < m) (h : f (o t) = true) : ((osn o m).drop j).any f = true := by
  refine List.any_eq_true.2 ⟨o t, ?_, h⟩
  have : ((osn o m).drop j)[t - j]? = some (o t) := by
    rw [List.getElem?_drop, show j + (t - j) = t by omega]
    exact osn_get o m t h2
  exact List.mem_of_getElem? this
end Go.Proofs.Ytkjakgemjhbfoaa
