/-
  Levels, bounds and children: both packages' walks.
-/
import Derived.Test.YtlmmpeeacjbobaaTv
namespace Go.Proofs.Ytlmmpeeacjbobaa
open Go.RowKit

theorem results_four' {fn : Func} {t u v x : Tmp} (h : fn.results = #[.tmp t, .tmp u, .tmp v, .tmp x]) (tmps : Array Value) (P : Program) (w : World) :
    (results fn tmps).run P w = .ok (.tuple #[tmps.getD t undef, tmps.getD u undef, tmps.getD v undef, tmps.getD x undef]) w := by simp [results, h]
theorem pth_ok' {i : List Int} {l : Int} (E : ExL i l) : (∀ t ∈ pthL i l, 0 ≤ t ∧ t ≤ 1000000000) ∧ (pthL i l).length ≤ 60 := by
  have hk := okR_pth E
  unfold pthL at hk ⊢
  split
  · simp
  · rename_i hl
    rw [if_neg hl] at hk
    obtain ⟨h1, h2, h3, h4⟩ := okR_snoc.1 hk
    refine ⟨fun t ht => ?_, by simp; omega⟩
    rcases List.mem_append.1 ht with e | e
    · exact h1 t e
    · rw [List.mem_singleton] at e; omega
theorem pt_bd {n d : Int} : (∀ t ∈ ptP n d, 0 ≤ t ∧ t ≤ 1000000000) ∧ (ptP n d).length ≤ 60 := by
  by_cases h : posC n d = 0
  · obtain ⟨hok, ⟨n1, n2⟩, d1, d2⟩ := pos_facts h
    obtain ⟨i, l, hL, E⟩ := ex_all n1 n2 d1 d2
    rw [pt_of h hL]
    have := pth_ok' E
    exact this
  · unfold ptP; rw [if_neg h]; simp
set_option maxHeartbeats 2000000 in
theorem levelI_any (n d : Int) (w : World) : Calls Try.prog 18 #[.agg #[.int .i64 n, .int .i64 d]] w (Ret w (.tuple #[.int .i64 (ptP n d).sum, .int .i64 (posC n d)])) := by
  obtain ⟨r, hr⟩ : ∃ r, posC n d = r := ⟨_, rfl⟩
  have H := Lib.hid (posC_one (fun _ => n) (fun _ => d) 1 rfl hr)
  by_cases h0 : r = 0
  · subst h0
    obtain ⟨hok, ⟨n1, n2⟩, d1, d2⟩ := pos_facts hr
    obtain ⟨i, l, hL, E⟩ := ex_all n1 n2 d1 d2
    have kP := fun w => pathTo_any n d n1 n2 d1 d2 i l hL E w
    obtain ⟨hbd, hlen⟩ := pt_bd (n := n) (d := d)
    rw [pt_of hr hL] at hbd hlen ⊢
    rw [hr]
    generalize pthL i l = s at *
    have hsum : sumN s s.length = s.sum := by unfold sumN; rw [List.take_of_length_le (Nat.le_refl _)]
    rw [← hsum]
    have HB := Lib.hid (sumN_bd hbd)
    clear hr hL E hok hbd hsum
    go_enter Try.func18, Try.ntmps18
    go_wp2_with fail
    apply Calls.mono
    · with_reducible exact checkPositive_any 1 1 _ (fun _ => n) (fun _ => d) (by omega) (by omega) (by omega) _ (by simp) (by intro j hj; obtain rfl : j = 0 := (by omega); exact ⟨(blk_at1' w _ _ _).cell 0, (blk_at1' w _ _ _).cell 1⟩) 0 H.out
    rintro _ w1 ⟨rfl, hb_w1⟩
    obtain ⟨hc_w1, hf_w1, hs_w1⟩ := bcell hb_w1
    try simp at hs_w1
    have hz_w1_w0 : w.heap.size < w1.heap.size := by omega
    have hy_w1_w0 : w.heap.size ≤ w1.heap.size := by omega
    have hx_w1_w0 : ∀ n : Nat, w.heap.size < w1.heap.size + n := by intro n; omega
    have hv_w1_w0 : ∀ n : Nat, w.heap.size ≤ w1.heap.size + n := by intro n; omega
    have hz_w1_w1 : w.heap.size + 1 < w1.heap.size := by omega
    have hy_w1_w1 : w.heap.size + 1 ≤ w1.heap.size := by omega
    have hx_w1_w1 : ∀ n : Nat, w.heap.size + 1 < w1.heap.size + n := by intro n; omega
    have hv_w1_w1 : ∀ n : Nat, w.heap.size + 1 ≤ w1.heap.size + n := by intro n; omega
    go_wp2_with fail
    apply Calls.mono
    · with_reducible exact kP _
    rintro _ w2 ⟨v2, rfl, ho2, hb_w2⟩
    obtain ⟨hc_w2, hf_w2, hs_w2⟩ := bcell hb_w2
    try simp at hs_w2
    have hz_w2_w0 : w.heap.size < w2.heap.size := by omega
    have hy_w2_w0 : w.heap.size ≤ w2.heap.size := by omega
    have hx_w2_w0 : ∀ n : Nat, w.heap.size < w2.heap.size + n := by intro n; omega
    have hv_w2_w0 : ∀ n : Nat, w.heap.size ≤ w2.heap.size + n := by intro n; omega
    have hz_w2_w1 : w.heap.size + 1 < w2.heap.size := by omega
    have hy_w2_w1 : w.heap.size + 1 ≤ w2.heap.size := by omega
    have hx_w2_w1 : ∀ n : Nat, w.heap.size + 1 < w2.heap.size + n := by intro n; omega
    have hv_w2_w1 : ∀ n : Nat, w.heap.size + 1 ≤ w2.heap.size + n := by intro n; omega
    have hbw2 : Below w.heap.size w w2 := by repeat' (first | (with_reducible exact Below.refl _ _) | (with_reducible assumption) | (with_reducible refine Below.alloc ?_ ?_ _) | (with_reducible refine Below.drew ?_) | (with_reducible refine bdrewN ?_ _) | (with_reducible refine Below.setCell ?_ ?_ _) | (with_reducible refine bthen ?_ (by assumption) ?_) | go_size)
    obtain ⟨A, c, rfl, hn1, hc1, _, hr1⟩ := Rd.of_own ho2
    have R1 := Lib.hid hr1
    have hcl : (s.length : Int) ≤ 9223372036854775807 := by omega
    clear ho2 hr1 hc_w1 hf_w1 hc_w2 hf_w2 hb_w1 hb_w2
    go_wp2_with fail
    go_loopg [5, 17] s.length (fun k a i wr => SuR w2 s s.length k a i wr)
    case atStart => exact ⟨0, by omega, by omega, rfl, rfl, Below.refl _ _⟩
    case round =>
      obtain ⟨j, hj1, hj2, rfl, rfl, hbw⟩ := hrel
      have hs := hbw.size
      by_cases hjn : j < s.length
      · obtain ⟨x, hx⟩ := get_ex (l := s) (k := j) hjn
        rcases R1.out with h0 | ⟨g, o, rfl, hg, hcell⟩
        · omega
        have c1 : wr.cell? ⟨g, o + j, none⟩ = some (.int .i64 x) := (hbw.cell (p := ⟨g, o + j, none⟩) hg).trans (hcell j _ (ints_get hx))
        have hgw : g < wr.heap.size := by omega
        have hjn' : (j : Int) < (s.length : Int) := by omega
        have b1 := HB.out j
        have b2 := HB.out (j + 1)
        rw [sumN_succ hx] at b2
        have HS := Lib.hid (sumN_succ hx)
        clear hx hcell R1
        generalize hq : sumN s j = q at *
        go_wp2
        go_roundg (gk - 1)
        case measure => omega
        case rel => exact ⟨j + 1, by omega, by omega, by go_num, by rw [HS.out], hbw⟩
      · have hj : j = s.length := by omega
        subst hj
        have b1 := HB.out s.length
        have belz := bthen hbw2 hbw hbw2.size
        go_wp2
        go_ret2
        refine ⟨by first | rfl | (simp), ?_⟩
        repeat' (first | (with_reducible exact Below.refl _ _) | (with_reducible assumption) | (with_reducible refine Below.alloc ?_ ?_ _) | (with_reducible refine Below.drew ?_) | (with_reducible refine bdrewN ?_ _) | (with_reducible refine Below.setCell ?_ ?_ _) | (with_reducible refine bthen ?_ (by assumption) ?_) | go_size)
  · have hp : ptP n d = [] := by unfold ptP; rw [if_neg (by rw [hr]; exact h0)]
    rw [hp, hr]
    have hne : (r != 0) = true := by simp [h0]
    clear hr h0 hp
    go_enter Try.func18, Try.ntmps18
    go_wp2_with fail
    apply Calls.mono
    · with_reducible exact checkPositive_any 1 1 _ (fun _ => n) (fun _ => d) (by omega) (by omega) (by omega) _ (by simp) (by intro j hj; obtain rfl : j = 0 := (by omega); exact ⟨(blk_at1' w _ _ _).cell 0, (blk_at1' w _ _ _).cell 1⟩) r H.out
    rintro _ w1 ⟨rfl, hb_w1⟩
    obtain ⟨hc_w1, hf_w1, hs_w1⟩ := bcell hb_w1
    try simp at hs_w1
    have hz_w1_w0 : w.heap.size < w1.heap.size := by omega
    have hy_w1_w0 : w.heap.size ≤ w1.heap.size := by omega
    have hx_w1_w0 : ∀ n : Nat, w.heap.size < w1.heap.size + n := by intro n; omega
    have hv_w1_w0 : ∀ n : Nat, w.heap.size ≤ w1.heap.size + n := by intro n; omega
    have hz_w1_w1 : w.heap.size + 1 < w1.heap.size := by omega
    have hy_w1_w1 : w.heap.size + 1 ≤ w1.heap.size := by omega
    have hx_w1_w1 : ∀ n : Nat, w.heap.size + 1 < w1.heap.size + n := by intro n; omega
    have hv_w1_w1 : ∀ n : Nat, w.heap.size + 1 ≤ w1.heap.size + n := by intro n; omega
    go_wp2
    go_ret2
    refine ⟨by first | rfl | (simp), ?_⟩
    repeat' (first | (with_reducible exact Below.refl _ _) | (with_reducible assumption) | (with_reducible refine Below.alloc ?_ ?_ _) | (with_reducible refine Below.drew ?_) | (with_reducible refine bdrewN ?_ _) | (with_reducible refine Below.setCell ?_ ?_ _) | (with_reducible refine bthen ?_ (by assumption) ?_) | go_size)
set_option maxHeartbeats 1000000 in
theorem levelS_any (n d : Int) (w : World) : Calls Try.prog 19 #[.agg #[.int .i64 n, .int .i64 d]] w (Ret w (.tuple #[.int .i64 (ptP n d).sum, .int .i64 (posC n d)])) := by
  obtain ⟨r, hr⟩ : ∃ r, posC n d = r := ⟨_, rfl⟩
  have H := Lib.hid hr
  by_cases h0 : r = 0
  · subst h0
    obtain ⟨hok, ⟨n1, n2⟩, d1, d2⟩ := pos_facts hr
    obtain ⟨i, l, hL, E⟩ := ex_all n1 n2 d1 d2
    have kP := fun w => l05Path_any n d n1 n2 d1 d2 i l hL E w
    obtain ⟨hbd, hlen⟩ := pt_bd (n := n) (d := d)
    rw [pt_of hr hL] at hbd hlen ⊢
    rw [hr]
    generalize pthL i l = s at *
    have kS := fun v w h => l05Sum_any v s.length s w h hlen hbd
    clear hr hL E hok hbd
    go_enter Try.func19, Try.ntmps19
    go_wp2_with fail
    apply Calls.mono
    · with_reducible exact l05Code_any _ _ 0 H.out _
    rintro _ w1 ⟨rfl, hb_w1⟩
    obtain ⟨hc_w1, hf_w1, hs_w1⟩ := bcell hb_w1
    try simp at hs_w1
    have hz_w1_w0 : w.heap.size < w1.heap.size := by omega
    have hy_w1_w0 : w.heap.size ≤ w1.heap.size := by omega
    have hx_w1_w0 : ∀ n : Nat, w.heap.size < w1.heap.size + n := by intro n; omega
    have hv_w1_w0 : ∀ n : Nat, w.heap.size ≤ w1.heap.size + n := by intro n; omega
    go_wp2_with fail
    apply Calls.mono
    · with_reducible exact kP _
    rintro _ w2 ⟨v2, rfl, ho2, hb_w2⟩
    obtain ⟨hc_w2, hf_w2, hs_w2⟩ := bcell hb_w2
    try simp at hs_w2
    have hz_w2_w0 : w.heap.size < w2.heap.size := by omega
    have hy_w2_w0 : w.heap.size ≤ w2.heap.size := by omega
    have hx_w2_w0 : ∀ n : Nat, w.heap.size < w2.heap.size + n := by intro n; omega
    have hv_w2_w0 : ∀ n : Nat, w.heap.size ≤ w2.heap.size + n := by intro n; omega
    have hbw2 : Below w.heap.size w w2 := by repeat' (first | (with_reducible exact Below.refl _ _) | (with_reducible assumption) | (with_reducible refine Below.alloc ?_ ?_ _) | (with_reducible refine Below.drew ?_) | (with_reducible refine bdrewN ?_ _) | (with_reducible refine Below.setCell ?_ ?_ _) | (with_reducible refine bthen ?_ (by assumption) ?_) | go_size)
    go_wp2_with fail
    apply Calls.mono
    · with_reducible exact kS _ _ (Rd.of_own ho2)
    rintro _ w3 ⟨rfl, hb_w3⟩
    have belz := bthen hbw2 hb_w3 hbw2.size
    go_wp2
    go_ret2
    refine ⟨by first | rfl | (simp), ?_⟩
    repeat' (first | (with_reducible exact Below.refl _ _) | (with_reducible assumption) | (with_reducible refine Below.alloc ?_ ?_ _) | (with_reducible refine Below.drew ?_) | (with_reducible refine bdrewN ?_ _) | (with_reducible refine Below.setCell ?_ ?_ _) | (with_reducible refine bthen ?_ (by assumption) ?_) | go_size)
  · have hp : ptP n d = [] := by unfold ptP; rw [if_neg (by rw [hr]; exact h0)]
    rw [hp, hr]
    have hne : (r != 0) = true := by simp [h0]
    clear hr h0 hp
    go_enter Try.func19, Try.ntmps19
    go_wp2_with fail
    apply Calls.mono
    · with_reducible exact l05Code_any _ _ r H.out _
    rintro _ w1 ⟨rfl, hb_w1⟩
    obtain ⟨hc_w1, hf_w1, hs_w1⟩ := bcell hb_w1
    try simp at hs_w1
    have hz_w1_w0 : w.heap.size < w1.heap.size := by omega
    have hy_w1_w0 : w.heap.size ≤ w1.heap.size := by omega
    have hx_w1_w0 : ∀ n : Nat, w.heap.size < w1.heap.size + n := by intro n; omega
    have hv_w1_w0 : ∀ n : Nat, w.heap.size ≤ w1.heap.size + n := by intro n; omega
    go_wp2
    go_ret2
    refine ⟨by first | rfl | (simp), ?_⟩
    repeat' (first | (with_reducible exact Below.refl _ _) | (with_reducible assumption) | (with_reducible refine Below.alloc ?_ ?_ _) | (with_reducible refine Below.drew ?_) | (with_reducible refine bdrewN ?_ _) | (with_reducible refine Below.setCell ?_ ?_ _) | (with_reducible refine bthen ?_ (by assumption) ?_) | go_size)
/-- The left and the right bound of a path. -/
def bnP (s : List Int) : Int × Int := if s.length % 2 = 0 then (mtx s).2 else (mtx s).1
def bnR (s : List Int) : Int × Int := if s.length % 2 = 0 then (mtx s).1 else (mtx s).2
theorem bn_even {s : List Int} (x : Int) (h : s.length % 2 = 0) : bnP (s ++ [x]) = ((bnP s).1 + x * (bnR s).1, (bnP s).2 + x * (bnR s).2) ∧ bnR (s ++ [x]) = bnR s := by
  have h2 : ¬ (s.length + 1) % 2 = 0 := by omega
  unfold bnP bnR
  rw [List.length_append, List.length_singleton, if_neg h2, if_neg h2, if_pos h, if_pos h, mtx_last]
  refine ⟨Prod.ext ?_ ?_, rfl⟩ <;> simp only <;> omega
theorem bn_odd {s : List Int} (x : Int) (h : ¬ s.length % 2 = 0) : bnR (s ++ [x]) = ((bnR s).1 + x * (bnP s).1, (bnR s).2 + x * (bnP s).2) ∧ bnP (s ++ [x]) = bnP s := by
  have h2 : (s.length + 1) % 2 = 0 := by omega
  unfold bnP bnR
  rw [List.length_append, List.length_singleton, if_pos h2, if_pos h2, if_neg h, if_neg h, mtx_last]
  refine ⟨Prod.ext ?_ ?_, rfl⟩ <;> simp only <;> omega
/-- All matrices on the way are small. -/
def SmM (s : List Int) : Prop := (∀ t ∈ s, 0 ≤ t ∧ t ≤ 1000000000) ∧ s.length ≤ 60 ∧ ∀ k : Nat, k ≤ s.length → (0 ≤ (bnP (s.take k)).1 ∧ (bnP (s.take k)).1 ≤ 1000000000) ∧ (0 ≤ (bnP (s.take k)).2 ∧ (bnP (s.take k)).2 ≤ 1000000000) ∧ (0 ≤ (bnR (s.take k)).1 ∧ (bnR (s.take k)).1 ≤ 1000000000) ∧ (0 ≤ (bnR (s.take k)).2 ∧ (bnR (s.take k)).2 ≤ 1000000000)
theorem sm_path {n d : Int} (h : posC n d = 0) : SmM (ptP n d) := by
  obtain ⟨hok, ⟨n1, n2⟩, d1, d2⟩ := pos_facts h
  obtain ⟨c1, c2, _, _, _, _, z1, z2, z3, z4⟩ := child_parent h
  obtain ⟨hbd, hlen⟩ := pt_bd (n := n) (d := d)
  have hk := (path_back h).1
  generalize ptP n d = s at *
  refine ⟨hbd, hlen, fun k hkl => ?_⟩
  -- a prefix' matrix lies below the whole one
  have key : ∀ k : Nat, k ≤ s.length → (0 ≤ (mtx (s.take k)).1.1 ∧ (mtx (s.take k)).1.1 ≤ 1000000000) ∧ (0 ≤ (mtx (s.take k)).1.2 ∧ (mtx (s.take k)).1.2 ≤ 1000000000) := by
    intro k hkl
    have nn := mtx_nn (a := s.take k) (fun t ht => (hbd t (List.mem_of_mem_take ht)).1)
    by_cases hk0 : k = 0
    · subst hk0; simp [mtx]
    · have e := List.take_append_drop k s
      have hb : ∀ t ∈ s.drop k, 1 ≤ t := by
        intro t ht
        by_cases es : s = []
        · subst es; simp at ht
        · obtain ⟨j, m, rfl⟩ := snoc_of es
          obtain ⟨h1, h2, h3, h4⟩ := okR_snoc.1 hk
          have ht2 : t ∈ (j ++ [m]).drop 1 := by
            have e2 : (j ++ [m]).drop k = ((j ++ [m]).drop 1).drop (k - 1) := by rw [List.drop_drop]; congr 1; omega
            rw [e2] at ht
            exact List.mem_of_mem_drop ht
          cases j with
          | nil => simp at ht2
          | cons y j =>
            simp only [List.cons_append, List.drop_one, List.tail_cons] at ht2
            rcases List.mem_append.1 ht2 with e | e
            · exact h2 t (by simpa using e)
            · rw [List.mem_singleton] at e; omega
      have g := mtx_grow (a := s.take k) (b := s.drop k) (fun t ht => (hbd t (List.mem_of_mem_take ht)).1) hb
      rw [e] at g
      omega
  have key2 : (0 ≤ (mtx (s.take k)).2.1 ∧ (mtx (s.take k)).2.1 ≤ 1000000000) ∧ (0 ≤ (mtx (s.take k)).2.2 ∧ (mtx (s.take k)).2.2 ≤ 1000000000) := by
    cases k with
    | zero => simp [mtx]
    | succ k =>
      obtain ⟨x, hx⟩ := get_ex (l := s) (k := k) (by omega)
      rw [List.take_add_one, hx]
      show (0 ≤ (mtx (s.take k ++ [x])).2.1 ∧ _) ∧ _
      have e : mtx (s.take k ++ (some x).toList) = mtx (s.take k ++ [x]) := rfl
      rw [e, mtx_last]
      exact key k (by omega)
  have key1 := key k hkl
  unfold bnP bnR
  split
  · exact ⟨key2.1, key2.2, key1.1, key1.2⟩
  · exact ⟨key1.1, key1.2, key2.1, key2.2⟩
def BnR (w : World) (s : List Int) (n : Nat) (k : Nat) (p q r t i : Value) (wr : World) : Prop :=
  ∃ j : Nat, j ≤ n ∧ n ≤ j + k ∧ i = .int .i64 j ∧ p = .int .i64 (bnP (s.take j)).1 ∧ q = .int .i64 (bnP (s.take j)).2 ∧ r = .int .i64 (bnR (s.take j)).1 ∧ t = .int .i64 (bnR (s.take j)).2 ∧ Below w.heap.size w wr
theorem take_ex {s : List Int} {j : Nat} {x : Int} (h : s[j]? = some x) : s.take (j + 1) = s.take j ++ [x] := by
  rw [List.take_add_one, h]; rfl
theorem mul_b {a b : Int} (a1 : 0 ≤ a) (a2 : a ≤ 1000000000) (b1 : 0 ≤ b) (b2 : b ≤ 1000000000) : 0 ≤ a * b ∧ a * b ≤ 1000000000000000000 :=
  ⟨Int.mul_nonneg a1 b1, Int.mul_le_mul a2 b2 b1 (by omega)⟩
set_option maxHeartbeats 2000000 in
theorem bounds_any (v : Value) (n : Nat) (s : List Int) (w : World) (hv : Rd w 1 v n (ints s)) (hS : SmM s) : Calls Try.prog 72 #[v] w (Ret w (.tuple #[.int .i64 (bnP s).1, .int .i64 (bnP s).2, .int .i64 (bnR s).1, .int .i64 (bnR s).2])) := by
  obtain ⟨hbd, hlen, hsm⟩ := hS
  have hl : s.length = n := by have := (rd_len hv).1; rw [ints_len] at this; omega
  subst hl
  have htk : s.take s.length = s := List.take_of_length_le (Nat.le_refl _)
  have HT := Lib.hid htk
  have HS := Lib.hid hsm
  have HB := Lib.hid hbd
  obtain ⟨P, hP⟩ : ∃ P, bnP s = P := ⟨_, rfl⟩
  obtain ⟨R, hR⟩ : ∃ R, bnR s = R := ⟨_, rfl⟩
  rw [hP, hR]
  have HP := Lib.hid hP
  have HR := Lib.hid hR
  obtain ⟨A, c, rfl, hn1, hc1, _, hr1⟩ := hv
  have R1 := Lib.hid hr1
  clear hr1 hbd hsm htk hP hR
  go_enter Try.func72, Try.ntmps72
  go_wp2_with fail
  go_loopg [6, 7, 8, 9, 14] s.length (fun k p q r t i wr => BnR w s s.length k p q r t i wr)
  case atStart => exact ⟨0, by omega, by omega, rfl, rfl, rfl, rfl, rfl, Below.refl _ _⟩
  case round =>
    obtain ⟨j, hj1, hj2, rfl, rfl, rfl, rfl, rfl, hbw⟩ := hrel
    have hs := hbw.size
    obtain ⟨⟨a1, a2⟩, ⟨a3, a4⟩, ⟨a5, a6⟩, a7, a8⟩ := HS.out j hj1
    by_cases hjn : j < s.length
    · obtain ⟨x, hx⟩ := get_ex (l := s) (k := j) hjn
      rcases R1.out with h0 | ⟨g, o, rfl, hg, hcell⟩
      · omega
      have c1 : wr.cell? ⟨g, o + j, none⟩ = some (.int .i64 x) := (hbw.cell (p := ⟨g, o + j, none⟩) hg).trans (hcell j _ (ints_get hx))
      have hgw : g < wr.heap.size := by omega
      have hjn' : (j : Int) < (s.length : Int) := by omega
      obtain ⟨x1, x2⟩ := HB.out x (List.mem_of_getElem? hx)
      have hlj : (s.take j).length = j := by rw [List.length_take]; omega
      have hE := bn_even (s := s.take j) x
      have hO := bn_odd (s := s.take j) x
      rw [← take_ex hx, hlj] at hE hO
      have HE := Lib.hid hE
      have HO := Lib.hid hO
      clear hx hcell R1 hE hO hlj
      generalize hpp : bnP (s.take j) = p at *
      generalize hrr : bnR (s.take j) = r at *
      obtain ⟨p, q⟩ := p
      obtain ⟨r, t⟩ := r
      simp only at a1 a2 a3 a4 a5 a6 a7 a8 ⊢
      clear hpp hrr
      obtain ⟨m1, m2⟩ := mul_b x1 x2 a5 a6
      obtain ⟨m3, m4⟩ := mul_b x1 x2 a7 a8
      obtain ⟨m5, m6⟩ := mul_b x1 x2 a1 a2
      obtain ⟨m7, m8⟩ := mul_b x1 x2 a3 a4
      by_cases hev : j % 2 = 0
      · have he : ((j : Int) % 2 == 0) = true := by rw [beq_iff_eq]; omega
        have he2 : (j : Int).tmod 2 = 0 := by rw [Int.tmod_eq_emod_of_nonneg (by omega)]; omega
        obtain ⟨e1, e2⟩ := HE.out hev
        have HE1 := Lib.hid e1
        have HE2 := Lib.hid e2
        clear e1 e2 he
        go_wp2
        go_roundg (gk - 1)
        case measure => omega
        case rel => exact ⟨j + 1, by omega, by omega, by go_num, by rw [HE1.out], by rw [HE1.out], by rw [HE2.out], by rw [HE2.out], hbw⟩
      · have he2 : ¬ ((j : Int).tmod 2 = 0) := by rw [Int.tmod_eq_emod_of_nonneg (by omega)]; omega
        obtain ⟨e1, e2⟩ := HO.out hev
        have HE1 := Lib.hid e1
        have HE2 := Lib.hid e2
        clear e1 e2
        go_wp2
        go_roundg (gk - 1)
        case measure => omega
        case rel => exact ⟨j + 1, by omega, by omega, by go_num, by rw [HE2.out], by rw [HE2.out], by rw [HE1.out], by rw [HE1.out], hbw⟩
    · have hj : j = s.length := by omega
      subst hj
      rw [HT.out, HP.out, HR.out]
      go_wp2
      refine bodyPost_ret (results_four' rfl _ _ _) rfl ?_
      exact ⟨rfl, hbw⟩
def LbR (w : World) (s : List Int) (k : Nat) (i : Value) (wr : World) : Prop :=
  ∃ j : Nat, j ≤ s.length ∧ s.length ≤ j + k ∧ i = .int .i64 j ∧ Blk wr w.heap.size 77 #[.int .i64 0, .int .i64 0, .int .i64 0, .int .i64 0] ∧
    Blk wr (w.heap.size + 1) 77 #[.int .i64 (bnP (s.take j)).1, .int .i64 (bnP (s.take j)).2, .int .i64 (bnR (s.take j)).1, .int .i64 (bnR (s.take j)).2] ∧ Below w.heap.size w wr
set_option maxHeartbeats 4000000 in
theorem l05Bounds_any (v : Value) (n : Nat) (s : List Int) (w : World) (hv : Rd w 1 v n (ints s)) (hS : SmM s) : Calls Try.prog 74 #[v] w (Ret w (.agg #[.int .i64 (bnP s).1, .int .i64 (bnP s).2, .int .i64 (bnR s).1, .int .i64 (bnR s).2])) := by
  obtain ⟨hbd, hlen, hsm⟩ := hS
  have hl : s.length = n := by have := (rd_len hv).1; rw [ints_len] at this; omega
  subst hl
  have htk : s.take s.length = s := List.take_of_length_le (Nat.le_refl _)
  have HT := Lib.hid htk
  have HS := Lib.hid hsm
  have HB := Lib.hid hbd
  obtain ⟨P, hP⟩ : ∃ P, bnP s = P := ⟨_, rfl⟩
  obtain ⟨R, hR⟩ : ∃ R, bnR s = R := ⟨_, rfl⟩
  rw [hP, hR]
  have HP := Lib.hid hP
  have HR := Lib.hid hR
  obtain ⟨A, c, rfl, hn1, hc1, _, hr1⟩ := hv
  have R1 := Lib.hid hr1
  clear hr1 hbd hsm htk hP hR
  have hA0 := (Blk.new w 77 #[.int .i64 0, .int .i64 0, .int .i64 0, .int .i64 0]).alloc (.cells #[.int .i64 0, .int .i64 1, .int .i64 1, .int .i64 0] 77)
  have hA1 := blk_at1' w 77 #[.int .i64 0, .int .i64 1, .int .i64 1, .int .i64 0] (.cells #[.int .i64 0, .int .i64 0, .int .i64 0, .int .i64 0] 77)
  have hA2 : Below w.heap.size w ((w.alloc (.cells #[.int .i64 0, .int .i64 0, .int .i64 0, .int .i64 0] 77)).alloc (.cells #[.int .i64 0, .int .i64 1, .int .i64 1, .int .i64 0] 77)) := ((Below.refl _ _).alloc (Nat.le_refl _) _).alloc (by rw [World.size_alloc]; omega) _
  go_enter Try.func74, Try.ntmps74
  go_wp2_with fail
  go_loopg [4] s.length (fun k i wr => LbR w s k i wr)
  case atStart => exact ⟨0, by omega, by omega, rfl, hA0, hA1, hA2⟩
  case round =>
    obtain ⟨j, hj1, hj2, rfl, hR0, hB0, hbw⟩ := hrel
    clear hA0 hA1 hA2
    have hs := hbw.size
    obtain ⟨⟨a1, a2⟩, ⟨a3, a4⟩, ⟨a5, a6⟩, a7, a8⟩ := HS.out j hj1
    have zR := hR0.lt
    have zB := hB0.lt
    have f0 : wr.frozen? ⟨w.heap.size + 1, 0, none⟩ = false := hB0.frozen 0
    have f1 : wr.frozen? ⟨w.heap.size + 1, 1, none⟩ = false := hB0.frozen 1
    have f2 : wr.frozen? ⟨w.heap.size + 1, 2, none⟩ = false := hB0.frozen 2
    have f3 : wr.frozen? ⟨w.heap.size + 1, 3, none⟩ = false := hB0.frozen 3
    by_cases hjn : j < s.length
    · obtain ⟨x, hx⟩ := get_ex (l := s) (k := j) hjn
      rcases R1.out with h0 | ⟨g, o, rfl, hg, hcell⟩
      · omega
      have c1 : wr.cell? ⟨g, o + j, none⟩ = some (.int .i64 x) := (hbw.cell (p := ⟨g, o + j, none⟩) hg).trans (hcell j _ (ints_get hx))
      have hgw : g < wr.heap.size := by omega
      have hgB : g ≠ w.heap.size + 1 := by omega
      have hgB' : w.heap.size + 1 ≠ g := by omega
      have hjn' : (j : Int) < (s.length : Int) := by omega
      obtain ⟨x1, x2⟩ := HB.out x (List.mem_of_getElem? hx)
      have hlj : (s.take j).length = j := by rw [List.length_take]; omega
      have hE := bn_even (s := s.take j) x
      have hO := bn_odd (s := s.take j) x
      rw [← take_ex hx, hlj] at hE hO
      have HE := Lib.hid hE
      have HO := Lib.hid hO
      clear hx hcell R1 hE hO hlj
      generalize hpp : bnP (s.take j) = p at *
      generalize hrr : bnR (s.take j) = r at *
      obtain ⟨p, q⟩ := p
      obtain ⟨r, t⟩ := r
      simp only at a1 a2 a3 a4 a5 a6 a7 a8 hB0 ⊢
      clear hpp hrr
      have d0 : wr.cell? ⟨w.heap.size + 1, 0, none⟩ = some (.int .i64 p) := hB0.cell 0
      have d1 : wr.cell? ⟨w.heap.size + 1, 1, none⟩ = some (.int .i64 q) := hB0.cell 1
      have d2 : wr.cell? ⟨w.heap.size + 1, 2, none⟩ = some (.int .i64 r) := hB0.cell 2
      have d3 : wr.cell? ⟨w.heap.size + 1, 3, none⟩ = some (.int .i64 t) := hB0.cell 3
      have HB0 := Lib.hid hB0
      have HR0 := Lib.hid hR0
      clear hB0 hR0
      obtain ⟨m1, m2⟩ := mul_b x1 x2 a5 a6
      obtain ⟨m3, m4⟩ := mul_b x1 x2 a7 a8
      obtain ⟨m5, m6⟩ := mul_b x1 x2 a1 a2
      obtain ⟨m7, m8⟩ := mul_b x1 x2 a3 a4
      by_cases hev : j % 2 = 0
      · have he2 : (j : Int).tmod 2 = 0 := by rw [Int.tmod_eq_emod_of_nonneg (by omega)]; omega
        obtain ⟨e1, e2⟩ := HE.out hev
        have HE1 := Lib.hid e1
        have HE2 := Lib.hid e2
        clear e1 e2
        go_wp2_with fail
        go_region
        all_goals go_wp2_with fail
        all_goals go_region
        all_goals go_wp2
        all_goals go_roundg (gk - 1)
        all_goals first
          | omega
          | (refine ⟨j + 1, by omega, by omega, by go_num, ?_, ?_, ?_⟩
             · exact (HR0.out.drew.far (p := ⟨w.heap.size + 1, 0, none⟩) (by simp) _).drew.far (p := ⟨w.heap.size + 1, 1, none⟩) (by simp) _
             · rw [HE1.out, HE2.out]; exact (HB0.out.drew.set_ 0 _).drew.set_ 1 _
             · repeat' (first | (with_reducible exact Below.refl _ _) | (with_reducible assumption) | (with_reducible refine Below.alloc ?_ ?_ _) | (with_reducible refine Below.drew ?_) | (with_reducible refine bdrewN ?_ _) | (with_reducible refine Below.setCell ?_ ?_ _) | (with_reducible refine bthen ?_ (by assumption) ?_) | go_size))
      · have he2 : ¬ ((j : Int).tmod 2 = 0) := by rw [Int.tmod_eq_emod_of_nonneg (by omega)]; omega
        obtain ⟨e1, e2⟩ := HO.out hev
        have HE1 := Lib.hid e1
        have HE2 := Lib.hid e2
        clear e1 e2
        go_wp2_with fail
        go_region
        all_goals go_wp2_with fail
        all_goals go_region
        all_goals go_wp2
        all_goals go_roundg (gk - 1)
        all_goals first
          | omega
          | (refine ⟨j + 1, by omega, by omega, by go_num, ?_, ?_, ?_⟩
             · exact (HR0.out.drew.far (p := ⟨w.heap.size + 1, 2, none⟩) (by simp) _).drew.far (p := ⟨w.heap.size + 1, 3, none⟩) (by simp) _
             · rw [HE1.out, HE2.out]; exact (HB0.out.drew.set_ 2 _).drew.set_ 3 _
             · repeat' (first | (with_reducible exact Below.refl _ _) | (with_reducible assumption) | (with_reducible refine Below.alloc ?_ ?_ _) | (with_reducible refine Below.drew ?_) | (with_reducible refine bdrewN ?_ _) | (with_reducible refine Below.setCell ?_ ?_ _) | (with_reducible refine bthen ?_ (by assumption) ?_) | go_size))
    · have hj : j = s.length := by omega
      subst hj
      rw [HT.out, HP.out, HR.out] at hB0
      have d0 : wr.cell? ⟨w.heap.size + 1, 0, none⟩ = some (.int .i64 P.1) := hB0.cell 0
      have d1 : wr.cell? ⟨w.heap.size + 1, 1, none⟩ = some (.int .i64 P.2) := hB0.cell 1
      have d2 : wr.cell? ⟨w.heap.size + 1, 2, none⟩ = some (.int .i64 R.1) := hB0.cell 2
      have d3 : wr.cell? ⟨w.heap.size + 1, 3, none⟩ = some (.int .i64 R.2) := hB0.cell 3
      have e0 : wr.cell? ⟨w.heap.size, 0, none⟩ = some (.int .i64 0) := hR0.cell 0
      have e1 : wr.cell? ⟨w.heap.size, 1, none⟩ = some (.int .i64 0) := hR0.cell 1
      have e2 : wr.cell? ⟨w.heap.size, 2, none⟩ = some (.int .i64 0) := hR0.cell 2
      have e3 : wr.cell? ⟨w.heap.size, 3, none⟩ = some (.int .i64 0) := hR0.cell 3
      have g0 : wr.frozen? ⟨w.heap.size, 0, none⟩ = false := hR0.frozen 0
      have g1 : wr.frozen? ⟨w.heap.size, 1, none⟩ = false := hR0.frozen 1
      have g2 : wr.frozen? ⟨w.heap.size, 2, none⟩ = false := hR0.frozen 2
      have g3 : wr.frozen? ⟨w.heap.size, 3, none⟩ = false := hR0.frozen 3
      clear hB0 hR0
      go_wp2
      refine bodyPost_ret (by simp [results, Try.results74, go_sem, *]; try rfl) rfl ?_
      refine ⟨by first | rfl | simp, ?_⟩
      repeat' (first | (with_reducible exact Below.refl _ _) | (with_reducible assumption) | (with_reducible refine Below.alloc ?_ ?_ _) | (with_reducible refine Below.drew ?_) | (with_reducible refine bdrewN ?_ _) | (with_reducible refine Below.setCell ?_ ?_ _) | (with_reducible refine bthen ?_ (by assumption) ?_) | go_size)
end Go.Proofs.Ytlmmpeeacjbobaa
