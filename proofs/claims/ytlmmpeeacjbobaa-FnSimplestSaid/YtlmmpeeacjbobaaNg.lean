/-
  Draws of orders and circles; the value of a list of terms; comparison of fractions.
-/
import Derived.Test.YtlmmpeeacjbobaaNf
import Derived.Test.YtlmmpeeacjbobaaSkT
import Derived.Test.YtlmmpeeacjbobaaCv2
import Derived.Test.YtlmmpeeacjbobaaFrac2
namespace Go.Proofs.Ytlmmpeeacjbobaa
open Go.RowKit

def cmpF (a b : Int) : Int := if a < b then -1 else if b < a then 1 else 0
theorem compare_any (a b : Int) (w : World) : Calls Try.prog 116 #[.int .i64 a, .int .i64 b] w (Ret w (.int .i64 (cmpF a b))) := by
  by_cases h1 : a < b
  · have e : cmpF a b = -1 := by unfold cmpF; rw [if_pos h1]
    rw [e]; clear e
    go_enter Try.func116, Try.ntmps116
    go_wp2
    go_ret
    refine ⟨by first | rfl | (simp), ?_⟩
    repeat' (first | (with_reducible exact Below.refl _ _) | (with_reducible assumption) | (with_reducible refine Below.alloc ?_ ?_ _) | (with_reducible refine Below.drew ?_) | (with_reducible refine bdrewN ?_ _) | (with_reducible refine Below.setCell ?_ ?_ _) | (with_reducible refine bthen ?_ (by assumption) ?_) | go_size)
  · by_cases h2 : b < a
    · have e : cmpF a b = 1 := by unfold cmpF; rw [if_neg h1, if_pos h2]
      rw [e]; clear e
      go_enter Try.func116, Try.ntmps116
      go_wp2
      go_ret
      refine ⟨by first | rfl | (simp), ?_⟩
      repeat' (first | (with_reducible exact Below.refl _ _) | (with_reducible assumption) | (with_reducible refine Below.alloc ?_ ?_ _) | (with_reducible refine Below.drew ?_) | (with_reducible refine bdrewN ?_ _) | (with_reducible refine Below.setCell ?_ ?_ _) | (with_reducible refine bthen ?_ (by assumption) ?_) | go_size)
    · have e : cmpF a b = 0 := by unfold cmpF; rw [if_neg h1, if_neg h2]
      rw [e]; clear e
      go_enter Try.func116, Try.ntmps116
      go_wp2
      go_ret
      refine ⟨by first | rfl | (simp), ?_⟩
      repeat' (first | (with_reducible exact Below.refl _ _) | (with_reducible assumption) | (with_reducible refine Below.alloc ?_ ?_ _) | (with_reducible refine Below.drew ?_) | (with_reducible refine bdrewN ?_ _) | (with_reducible refine Below.setCell ?_ ?_ _) | (with_reducible refine bthen ?_ (by assumption) ?_) | go_size)
theorem compareF_any (a b c d : Int) (h1 : okF a b = true) (h2 : okF c d = true) (w : World) : Calls Try.prog 83 #[.agg #[.int .i64 a, .int .i64 b], .agg #[.int .i64 c, .int .i64 d]] w (Ret w (.int .i64 (cmpF (a * d) (c * b)))) := by
  obtain ⟨a1, a2, a3, a4⟩ := okF_bd h1
  obtain ⟨b1, b2, b3, b4⟩ := okF_bd h2
  obtain ⟨m1, m2⟩ := mul_bd9 (a := a) (b := d) a3 a4 (by omega) b2
  obtain ⟨m3, m4⟩ := mul_bd9 (a := c) (b := b) b3 b4 (by omega) a2
  clear h1 h2
  go_enter Try.func83, Try.ntmps83
  go_wp2_with fail
  apply Calls.mono
  · with_reducible exact compare_any _ _ _
  rintro _ w1 ⟨rfl, hb_w1⟩
  obtain ⟨hc_w1, hf_w1, hs_w1⟩ := bcell hb_w1
  try simp at hs_w1
  have hz_w1_w0 : w.heap.size < w1.heap.size := by omega
  have hy_w1_w0 : w.heap.size ≤ w1.heap.size := by omega
  have hx_w1_w0 : ∀ n : Nat, w.heap.size < w1.heap.size + n := by intro n; omega
  have hv_w1_w0 : ∀ n : Nat, w.heap.size ≤ w1.heap.size + n := by intro n; omega
  have hz_w1_w1 : w.heap.size + 1 < w1.heap.size := by omega
  have hy_w1_w1 : w.heap.size + 1 ≤ w1.heap.size := by omega
  have hx_w1_w1 : ∀ n : Nat, w.heap.size + 1 < w1.heap.size + n := by intro n; omega
  have hv_w1_w1 : ∀ n : Nat, w.heap.size + 1 ≤ w1.heap.size + n := by intro n; omega
  go_wp2
  go_ret
  refine ⟨by first | rfl | (simp), ?_⟩
  repeat' (first | (with_reducible exact Below.refl _ _) | (with_reducible assumption) | (with_reducible refine Below.alloc ?_ ?_ _) | (with_reducible refine Below.drew ?_) | (with_reducible refine bdrewN ?_ _) | (with_reducible refine Below.setCell ?_ ?_ _) | (with_reducible refine bthen ?_ (by assumption) ?_) | go_size)
theorem compareFI_any (a b c d : Int) (h1 : okF a b = true) (h2 : okF c d = true) (w : World) : Calls Try.prog 39 #[.agg #[.int .i64 a, .int .i64 b], .agg #[.int .i64 c, .int .i64 d]] w (Ret w (.tuple #[.int .i64 (cmpF (a * d) (c * b)), .int .i64 0])) := by
  have H1 := Lib.hid h1
  have H2 := Lib.hid h2
  clear h1 h2
  go_enter Try.func39, Try.ntmps39
  go_wp2_with fail
  apply Calls.mono
  · with_reducible exact validFraction_any _ _ true H1.out _
  rintro _ w1 ⟨rfl, hb_w1⟩
  obtain ⟨hc_w1, hf_w1, hs_w1⟩ := bcell hb_w1
  try simp at hs_w1
  have hz_w1_w0 : w.heap.size < w1.heap.size := by omega
  have hy_w1_w0 : w.heap.size ≤ w1.heap.size := by omega
  have hx_w1_w0 : ∀ n : Nat, w.heap.size < w1.heap.size + n := by intro n; omega
  have hv_w1_w0 : ∀ n : Nat, w.heap.size ≤ w1.heap.size + n := by intro n; omega
  have hz_w1_w1 : w.heap.size + 1 < w1.heap.size := by omega
  have hy_w1_w1 : w.heap.size + 1 ≤ w1.heap.size := by omega
  have hx_w1_w1 : ∀ n : Nat, w.heap.size + 1 < w1.heap.size + n := by intro n; omega
  have hv_w1_w1 : ∀ n : Nat, w.heap.size + 1 ≤ w1.heap.size + n := by intro n; omega
  go_wp2_with fail
  apply Calls.mono
  · with_reducible exact validFraction_any _ _ true H2.out _
  rintro _ w2 ⟨rfl, hb_w2⟩
  obtain ⟨hc_w2, hf_w2, hs_w2⟩ := bcell hb_w2
  try simp at hs_w2
  have hz_w2_w0 : w.heap.size < w2.heap.size := by omega
  have hy_w2_w0 : w.heap.size ≤ w2.heap.size := by omega
  have hx_w2_w0 : ∀ n : Nat, w.heap.size < w2.heap.size + n := by intro n; omega
  have hv_w2_w0 : ∀ n : Nat, w.heap.size ≤ w2.heap.size + n := by intro n; omega
  have hz_w2_w1 : w.heap.size + 1 < w2.heap.size := by omega
  have hy_w2_w1 : w.heap.size + 1 ≤ w2.heap.size := by omega
  have hx_w2_w1 : ∀ n : Nat, w.heap.size + 1 < w2.heap.size + n := by intro n; omega
  have hv_w2_w1 : ∀ n : Nat, w.heap.size + 1 ≤ w2.heap.size + n := by intro n; omega
  go_wp2_with fail
  apply Calls.mono
  · with_reducible exact compareF_any _ _ _ _ H1.out H2.out _
  rintro _ w3 ⟨rfl, hb_w3⟩
  obtain ⟨hc_w3, hf_w3, hs_w3⟩ := bcell hb_w3
  try simp at hs_w3
  have hz_w3_w0 : w.heap.size < w3.heap.size := by omega
  have hy_w3_w0 : w.heap.size ≤ w3.heap.size := by omega
  have hx_w3_w0 : ∀ n : Nat, w.heap.size < w3.heap.size + n := by intro n; omega
  have hv_w3_w0 : ∀ n : Nat, w.heap.size ≤ w3.heap.size + n := by intro n; omega
  have hz_w3_w1 : w.heap.size + 1 < w3.heap.size := by omega
  have hy_w3_w1 : w.heap.size + 1 ≤ w3.heap.size := by omega
  have hx_w3_w1 : ∀ n : Nat, w.heap.size + 1 < w3.heap.size + n := by intro n; omega
  have hv_w3_w1 : ∀ n : Nat, w.heap.size + 1 ≤ w3.heap.size + n := by intro n; omega
  go_wp2
  go_ret2
  refine ⟨by first | rfl | (simp), ?_⟩
  repeat' (first | (with_reducible exact Below.refl _ _) | (with_reducible assumption) | (with_reducible refine Below.alloc ?_ ?_ _) | (with_reducible refine Below.drew ?_) | (with_reducible refine bdrewN ?_ _) | (with_reducible refine Below.setCell ?_ ?_ _) | (with_reducible refine bthen ?_ (by assumption) ?_) | go_size)
/-- A fraction and a code came back; nothing that was there has turned. -/
def RetFC (w : World) (e : Ending) (w' : World) : Prop := ∃ n d c : Int, e = .returned (.tuple #[.agg #[.int .i64 n, .int .i64 d], .int .i64 c]) ∧ Below w.heap.size w w'
set_option maxHeartbeats 1000000 in
theorem valueOfTerms_any (v : Value) (n : Nat) (zs : List Int) (w : World) (hv : Rd w 1 v n (ints zs)) (hn : n ≤ 4194304) : Calls Try.prog 102 #[v] w (RetFC w) := by
  have HV := Lib.hid (fun w' (hb : Below w.heap.size w w') => hv.below hb (Nat.le_refl _))
  have hl : zs.length = n := by have := (rd_len hv).1; rw [ints_len] at this; omega
  obtain ⟨A, c, rfl, -⟩ := id hv
  clear hv
  cases ht : tmsB zs
  · have HT := Lib.hid ht
    clear ht
    go_enter Try.func102, Try.ntmps102
    go_wp2_with fail
    apply Calls.mono
    · with_reducible exact l03Ok_any _ n zs _ (HV.out _ ((Below.refl _ _).alloc (Nat.le_refl _) _)) hn false HT.out
    rintro _ w1 ⟨rfl, hb_w1⟩
    obtain ⟨hc_w1, hf_w1, hs_w1⟩ := bcell hb_w1
    try simp at hs_w1
    have hz_w1_w0 : w.heap.size < w1.heap.size := by omega
    have hy_w1_w0 : w.heap.size ≤ w1.heap.size := by omega
    have hx_w1_w0 : ∀ n : Nat, w.heap.size < w1.heap.size + n := by intro n; omega
    have hv_w1_w0 : ∀ n : Nat, w.heap.size ≤ w1.heap.size + n := by intro n; omega
    go_wp2
    refine bodyPost_ret (by simp [results, Try.results102, go_sem, *]; try rfl) rfl ?_
    refine ⟨_, _, _, rfl, ?_⟩
    repeat' (first | (with_reducible exact Below.refl _ _) | (with_reducible assumption) | (with_reducible refine Below.alloc ?_ ?_ _) | (with_reducible refine Below.drew ?_) | (with_reducible refine bdrewN ?_ _) | (with_reducible refine Below.setCell ?_ ?_ _) | (with_reducible refine bthen ?_ (by assumption) ?_) | go_size)
  · have ht2 := (tms_iff.1 ht).1
    have HT := Lib.hid ht
    clear ht
    go_enter Try.func102, Try.ntmps102
    go_wp2_with fail
    apply Calls.mono
    · with_reducible exact l03Ok_any _ n zs _ (HV.out _ ((Below.refl _ _).alloc (Nat.le_refl _) _)) hn true HT.out
    rintro _ w1 ⟨rfl, hb_w1⟩
    obtain ⟨hc_w1, hf_w1, hs_w1⟩ := bcell hb_w1
    try simp at hs_w1
    have hz_w1_w0 : w.heap.size < w1.heap.size := by omega
    have hy_w1_w0 : w.heap.size ≤ w1.heap.size := by omega
    have hx_w1_w0 : ∀ n : Nat, w.heap.size < w1.heap.size + n := by intro n; omega
    have hv_w1_w0 : ∀ n : Nat, w.heap.size ≤ w1.heap.size + n := by intro n; omega
    have bel1 : Below w.heap.size w w1 := bthen ((Below.refl _ _).alloc (Nat.le_refl _) _) hb_w1 (by rw [World.size_alloc]; omega)
    go_wp2_with fail
    apply Calls.mono
    · with_reducible exact l03Convergents_any _ n zs _ (HV.out _ bel1) HT.out
    rintro _ w2 ⟨v2, rfl, hown, hb_w2⟩
    have bel2 := bthen bel1 hb_w2 bel1.size
    have B2 := ((Blk.new w 24 #[.int .i64 0, .int .i64 0]).below hb_w1 (by rw [World.size_alloc]; omega)).below hb_w2 (by omega)
    have x0 := B2.cell 0
    have x1 := B2.cell 1
    have f0 := B2.frozen 0
    have f1 := B2.frozen 1
    have z2 := B2.lt
    clear hb_w1 hc_w1 hf_w1 B2 hb_w2
    cases hf : fitL zs
    · clear hown hf
      go_wp2
      refine bodyPost_ret (by simp [results, Try.results102, go_sem, *]; try rfl) rfl ?_
      refine ⟨_, _, _, rfl, ?_⟩
      repeat' (first | (with_reducible exact Below.refl _ _) | (with_reducible assumption) | (with_reducible refine Below.alloc ?_ ?_ _) | (with_reducible refine Below.drew ?_) | (with_reducible refine bdrewN ?_ _) | (with_reducible refine Below.setCell ?_ ?_ _) | (with_reducible refine bthen ?_ (by assumption) ?_) | go_size)
    · have hown := hown hf
      obtain ⟨k, hk⟩ : ∃ k, zs.length = k + 1 := ⟨zs.length - 1, by omega⟩
      have hlen := cvl_len zs zs.length
      generalize hcv : cvl zs zs.length = cv at *
      rw [hk] at hown
      obtain ⟨a2, c2, rfl, -⟩ := id (Rd.of_own hown)
      obtain ⟨⟨y1, y2⟩, hy⟩ := get_ex (l := cv) (k := k) (by omega)
      have hy' : (prc cv)[k * 2]? = some (.int .i64 y1) ∧ (prc cv)[k * 2 + 1]? = some (.int .i64 y2) := by
        have := prs_get hy
        exact this
      obtain ⟨i1, i2⟩ := hy'
      obtain ⟨A2, C2, hA, x2, x3, x4, h0 | ⟨g, o, rfl, hg, hcell⟩⟩ := Rd.of_own hown
      · omega
      injection hA with hA1 hA2 hA3
      subst hA1 hA3
      have c1 : w2.cell? ⟨g, o + k * 2, none⟩ = some (.int .i64 y1) := hcell (k * 2) _ i1
      have c2' : w2.cell? ⟨g, o + k * 2 + 1, none⟩ = some (.int .i64 y2) := hcell (k * 2 + 1) _ i2
      have e1 : ((k + 1 : Nat) : Int) - 1 = (k : Int) := by omega
      have e2 : (k : Int) < ((k + 1 : Nat) : Int) := by omega
      have hk60 : k ≤ 59 := by omega
      clear hown hcell i1 i2 hy hcv hlen hl hk hf ht2
      go_wp2
      refine bodyPost_ret (by simp [results, Try.results102, go_sem, *]; try rfl) rfl ?_
      refine ⟨_, _, _, rfl, ?_⟩
      repeat' (first | (with_reducible exact Below.refl _ _) | (with_reducible assumption) | (with_reducible refine Below.alloc ?_ ?_ _) | (with_reducible refine Below.drew ?_) | (with_reducible refine bdrewN ?_ _) | (with_reducible refine Below.setCell ?_ ?_ _) | (with_reducible refine bthen ?_ (by assumption) ?_) | go_size)
theorem drawNextFarey_any (A : Option Addr) (n c : Nat) (w : World) (hn : n ≤ 100000) (hr : ByteRd w w.heap.size A n) : Calls Try.prog 41 #[.slice A n c] w (AskP w) := by
  have hr0 : ByteRd (w.alloc (.cells #[.int .i64 0, .int .i64 0] 24)) (w.alloc (.cells #[.int .i64 0, .int .i64 0] 24)).heap.size A n := hr.below ((Below.refl _ _).alloc (Nat.le_refl _) _)
  have B0 := Blk.new w 24 #[.int .i64 0, .int .i64 0]
  go_enter Try.func41, Try.ntmps41
  go_wp2_with fail
  apply Calls.mono
  · with_reducible exact l06Ask_any A n c _ hn hr0
  rintro _ w1 ⟨o, x, y, rfl, hb_w1⟩
  have bel1 : Below w.heap.size w w1 := bthen ((Below.refl _ _).alloc (Nat.le_refl _) _) hb_w1 (by rw [World.size_alloc]; omega)
  have B1 := B0.below hb_w1 B0.lt
  have c0 := B1.cell 0
  have c1 := B1.cell 1
  have f0 := B1.frozen 0
  have f1 := B1.frozen 1
  have z5 := B1.lt
  clear B0 B1 hb_w1
  go_wp2
  refine bodyPost_ret (by simp [results, Try.results41, go_sem, *]; try rfl) rfl ?_
  refine ⟨_, _, _, rfl, ?_⟩
  repeat' (first | (with_reducible exact Below.refl _ _) | (with_reducible assumption) | (with_reducible refine Below.alloc ?_ ?_ _) | (with_reducible refine Below.drew ?_) | (with_reducible refine bdrewN ?_ _) | (with_reducible refine Below.setCell ?_ ?_ _) | (with_reducible refine bthen ?_ (by assumption) ?_) | go_size)
theorem drawFareyRank_any (A : Option Addr) (n c : Nat) (w : World) (hn : n ≤ 100000) (hr : ByteRd w w.heap.size A n) : Calls Try.prog 46 #[.slice A n c] w (AskP w) := by
  have hr0 : ByteRd (w.alloc (.cells #[.int .i64 0, .int .i64 0] 24)) (w.alloc (.cells #[.int .i64 0, .int .i64 0] 24)).heap.size A n := hr.below ((Below.refl _ _).alloc (Nat.le_refl _) _)
  have B0 := Blk.new w 24 #[.int .i64 0, .int .i64 0]
  go_enter Try.func46, Try.ntmps46
  go_wp2_with fail
  apply Calls.mono
  · with_reducible exact l06Ask_any A n c _ hn hr0
  rintro _ w1 ⟨o, x, y, rfl, hb_w1⟩
  have bel1 : Below w.heap.size w w1 := bthen ((Below.refl _ _).alloc (Nat.le_refl _) _) hb_w1 (by rw [World.size_alloc]; omega)
  have B1 := B0.below hb_w1 B0.lt
  have c0 := B1.cell 0
  have c1 := B1.cell 1
  have f0 := B1.frozen 0
  have f1 := B1.frozen 1
  have z5 := B1.lt
  clear B0 B1 hb_w1
  go_wp2
  refine bodyPost_ret (by simp [results, Try.results46, go_sem, *]; try rfl) rfl ?_
  refine ⟨_, _, _, rfl, ?_⟩
  repeat' (first | (with_reducible exact Below.refl _ _) | (with_reducible assumption) | (with_reducible refine Below.alloc ?_ ?_ _) | (with_reducible refine Below.drew ?_) | (with_reducible refine bdrewN ?_ _) | (with_reducible refine Below.setCell ?_ ?_ _) | (with_reducible refine bthen ?_ (by assumption) ?_) | go_size)
set_option maxHeartbeats 1000000 in
theorem drawCircleOf_any (A : Option Addr) (n c : Nat) (w : World) (hn : n ≤ 100000) (hr : ByteRd w w.heap.size A n) : Calls Try.prog 51 #[.slice A n c] w (RetFr w) := by
  have hr0 : ByteRd (w.alloc (.cells #[.int .i64 0, .int .i64 0] 24)) (w.alloc (.cells #[.int .i64 0, .int .i64 0] 24)).heap.size A n := hr.below ((Below.refl _ _).alloc (Nat.le_refl _) _)
  have B0 := Blk.new w 24 #[.int .i64 0, .int .i64 0]
  have V0 : Below w.heap.size w (w.alloc (.cells #[.int .i64 0, .int .i64 0] 24)) := (Below.refl _ _).alloc (Nat.le_refl _) _
  go_enter Try.func51, Try.ntmps51
  go_wp2_with fail
  apply Calls.mono
  · with_reducible exact from_any A n c _ hn hr0
  rintro _ w1 ⟨g, rfl, s1, b1, hg⟩
  have B1 := B0.below b1 B0.lt
  have V1 := bthen V0 b1 V0.size
  have hg' : w.heap.size < g := Nat.lt_of_lt_of_le B0.lt hg
  have hgb : some w.heap.size ≠ some g := fun e => by injection e with e; omega
  clear hr hr0 B0 V0 b1
  go_wp2_with fail
  apply Calls.mono
  · with_reducible exact one_any g 0 6 _ s1 (by omega) (by omega) (by omega)
  rintro _ w3 ⟨t, rfl, s3, g3⟩
  have B3 := B1.grown g3 hgb
  have V3 := bthen V1 (grown_base (B := w.heap.size) (by omega) V1.size g3) (Nat.le_refl _)
  clear B1 V1 g3 s1
  cases t
  · go_wp2_with fail
    apply Calls.mono
    · with_reducible exact l02Bent_any g 2 _ s3 (by omega)
    rintro _ w5 ⟨n, d, rfl, s5, g5⟩
    have B5 := B3.grown g5 hgb
    have V5 := bthen V3 (grown_base (B := w.heap.size) (by omega) V3.size g5) (Nat.le_refl _)
    have c0 := B5.cell 0
    have c1 := B5.cell 1
    have f0 := B5.frozen 0
    have f1 := B5.frozen 1
    have z5 := B5.lt
    clear B3 V3 g5 s3
    go_wp2
    refine bodyPost_ret (by simp [results, Try.results51, go_sem, *]; try rfl) rfl ?_
    refine ⟨_, _, rfl, ?_⟩
    repeat' (first | (with_reducible exact Below.refl _ _) | (with_reducible assumption) | (with_reducible refine Below.alloc ?_ ?_ _) | (with_reducible refine Below.drew ?_) | (with_reducible refine bdrewN ?_ _) | (with_reducible refine Below.setCell ?_ ?_ _) | (with_reducible refine bthen ?_ (by assumption) ?_) | go_size)
  · have hL := World.ownsRow_lit (base := 0) (e := 2) (size := 1) w3 #[.int .i64 22360, .int .i64 22361] 2 (Nat.zero_le _) (by simp [maxLen]) (by simp)
    have kA := among_any g 2 _ 2 [22360, 22361] _ (s3.alloc' _) (by omega) (Rs.of_own hL) (fun e => by have e : some g = some w3.heap.size := e; injection e with e; have := s3.lt'; omega) (by omega) (by omega)
    have B3' := B3.alloc (.cells #[.int .i64 22360, .int .i64 22361] 2)
    have V3' := V3.alloc V3.size (.cells #[.int .i64 22360, .int .i64 22361] 2)
    clear hL B3 V3
    go_wp2_with fail
    apply Calls.mono
    · with_reducible exact kA
    rintro _ w5 ⟨z, rfl, hz, s5, g5⟩
    have B5 := B3'.grown g5 hgb
    have V5 := bthen V3' (grown_base (B := w.heap.size) (by omega) V3'.size g5) (Nat.le_refl _)
    have c0 := B5.cell 0
    have c1 := B5.cell 1
    have f0 := B5.frozen 0
    have f1 := B5.frozen 1
    have z5 := B5.lt
    clear B3' V3' g5 s3 hz kA
    go_wp2
    refine bodyPost_ret (by simp [results, Try.results51, go_sem, *]; try rfl) rfl ?_
    refine ⟨_, _, rfl, ?_⟩
    repeat' (first | (with_reducible exact Below.refl _ _) | (with_reducible assumption) | (with_reducible refine Below.alloc ?_ ?_ _) | (with_reducible refine Below.drew ?_) | (with_reducible refine bdrewN ?_ _) | (with_reducible refine Below.setCell ?_ ?_ _) | (with_reducible refine bthen ?_ (by assumption) ?_) | go_size)
theorem exF_len : ∀ (k : Nat) (n d : Int), (exF k n d).length ≤ k
  | 0, n, d => by simp [exF]
  | k + 1, n, d => by
    unfold exF
    split
    · simp
    · have := exF_len k d (n % d)
      simp only [List.length_cons]; omega
/-- Two fractions came back; nothing that was there has turned. -/
def RetFF (w : World) (e : Ending) (w' : World) : Prop := ∃ n d n' d' : Int, e = .returned (.tuple #[.agg #[.int .i64 n, .int .i64 d], .agg #[.int .i64 n', .int .i64 d']]) ∧ Below w.heap.size w w'
def Four (w : World) (t : TypeId) (r a : Nat) (n d n' d' : Int) : Prop :=
  Blk w r t #[.int .i64 0, .int .i64 0] ∧ Blk w (r + 1) t #[.int .i64 0, .int .i64 0] ∧ Blk w a t #[.int .i64 n, .int .i64 d] ∧ Blk w (a + 1) t #[.int .i64 n', .int .i64 d']
theorem Four.below {w w' : World} {t : TypeId} {r a : Nat} {n d n' d' : Int} (h : Four w t r a n d n' d') (hb : Below w.heap.size w w') : Four w' t r a n d n' d' :=
  ⟨h.1.below hb h.1.lt, h.2.1.below hb h.2.1.lt, h.2.2.1.below hb h.2.2.1.lt, h.2.2.2.below hb h.2.2.2.lt⟩
theorem Four.grown {w w' : World} {t : TypeId} {r a g : Nat} {n d n' d' : Int} (h : Four w t r a n d n' d') (hb : w.grownBy w' (some g)) (h1 : r ≠ g) (h2 : r + 1 ≠ g) (h3 : a ≠ g) (h4 : a + 1 ≠ g) : Four w' t r a n d n' d' :=
  ⟨h.1.grown hb (fun e => h1 (by injection e)), h.2.1.grown hb (fun e => h2 (by injection e)), h.2.2.1.grown hb (fun e => h3 (by injection e)), h.2.2.2.grown hb (fun e => h4 (by injection e))⟩
theorem Four.alloc {w : World} {t : TypeId} {r a : Nat} {n d n' d' : Int} (h : Four w t r a n d n' d') (o : Obj) : Four (w.alloc o) t r a n d n' d' :=
  ⟨h.1.alloc o, h.2.1.alloc o, h.2.2.1.alloc o, h.2.2.2.alloc o⟩
theorem Four.facts {w : World} {t : TypeId} {r a : Nat} {n d n' d' : Int} (h : Four w t r a n d n' d') :
    (w.cell? ⟨r, 0, none⟩ = some (.int .i64 0) ∧ w.cell? ⟨r, 1, none⟩ = some (.int .i64 0) ∧ w.cell? ⟨r + 1, 0, none⟩ = some (.int .i64 0) ∧ w.cell? ⟨r + 1, 1, none⟩ = some (.int .i64 0)) ∧
    (w.cell? ⟨a, 0, none⟩ = some (.int .i64 n) ∧ w.cell? ⟨a, 1, none⟩ = some (.int .i64 d) ∧ w.cell? ⟨a + 1, 0, none⟩ = some (.int .i64 n') ∧ w.cell? ⟨a + 1, 1, none⟩ = some (.int .i64 d')) ∧
    (w.frozen? ⟨r, 0, none⟩ = false ∧ w.frozen? ⟨r, 1, none⟩ = false ∧ w.frozen? ⟨r + 1, 0, none⟩ = false ∧ w.frozen? ⟨r + 1, 1, none⟩ = false) ∧ (r < w.heap.size ∧ r + 1 < w.heap.size ∧ a < w.heap.size ∧ a + 1 < w.heap.size) :=
  ⟨⟨h.1.cell 0, h.1.cell 1, h.2.1.cell 0, h.2.1.cell 1⟩, ⟨h.2.2.1.cell 0, h.2.2.1.cell 1, h.2.2.2.cell 0, h.2.2.2.cell 1⟩, ⟨h.1.frozen 0, h.1.frozen 1, h.2.1.frozen 0, h.2.1.frozen 1⟩, h.1.lt, h.2.1.lt, h.2.2.1.lt, h.2.2.2.lt⟩
set_option maxHeartbeats 2000000 in
theorem drawCirclesTouch_any (A : Option Addr) (n c : Nat) (w : World) (hn : n ≤ 100000) (hr : ByteRd w w.heap.size A n) : Calls Try.prog 54 #[.slice A n c] w (RetFF w) := by
  have V0 : Below w.heap.size w ((w.alloc (.cells #[.int .i64 0, .int .i64 0] 24)).alloc (.cells #[.int .i64 0, .int .i64 0] 24)) := ((Below.refl _ _).alloc (Nat.le_refl _) _).alloc (by rw [World.size_alloc]; omega) _
  have hr0 : ByteRd ((w.alloc (.cells #[.int .i64 0, .int .i64 0] 24)).alloc (.cells #[.int .i64 0, .int .i64 0] 24)) ((w.alloc (.cells #[.int .i64 0, .int .i64 0] 24)).alloc (.cells #[.int .i64 0, .int .i64 0] 24)).heap.size A n := hr.below V0
  have B0 := (Blk.new w 24 #[.int .i64 0, .int .i64 0]).alloc (.cells #[.int .i64 0, .int .i64 0] 24)
  have B0' : Blk ((w.alloc (.cells #[.int .i64 0, .int .i64 0] 24)).alloc (.cells #[.int .i64 0, .int .i64 0] 24)) (w.heap.size + 1) 24 #[.int .i64 0, .int .i64 0] := by
    have := Blk.new (w.alloc (.cells #[.int .i64 0, .int .i64 0] 24)) 24 #[.int .i64 0, .int .i64 0]
    rwa [World.size_alloc] at this
  go_enter Try.func54, Try.ntmps54
  go_wp2_with fail
  apply Calls.mono
  · with_reducible exact from_any A n c _ hn hr0
  rintro _ w1 ⟨g, rfl, s1, b1, hg⟩
  have B1 := B0.below b1 B0.lt
  have B1' := B0'.below b1 B0'.lt
  have V1 := bthen V0 b1 V0.size
  have hg' : w.heap.size + 1 < g := Nat.lt_of_lt_of_le B0'.lt hg
  have hgb : some w.heap.size ≠ some g := fun e => by injection e with e; omega
  have hgb' : some (w.heap.size + 1) ≠ some g := fun e => by injection e with e; omega
  clear hr hr0 B0 B0' V0 b1
  go_wp2_with fail
  apply Calls.mono
  · with_reducible exact l02Both_any g 0 _ s1 (by omega)
  rintro _ w2 ⟨x, y, x', y', rfl, s2, g2⟩
  have B2 := B1.grown g2 hgb
  have B2' := B1'.grown g2 hgb'
  have V2 := bthen V1 (grown_base (B := w.heap.size) (by omega) V1.size g2) (Nat.le_refl _)
  have hlt := s2.lt'
  have F3 : Four ((w2.alloc (.cells #[.int .i64 x, .int .i64 y] 24)).alloc (.cells #[.int .i64 x', .int .i64 y'] 24)) 24 w.heap.size w2.heap.size x y x' y' := by
    refine ⟨(B2.alloc _).alloc _, (B2'.alloc _).alloc _, (Blk.new w2 _ _).alloc _, ?_⟩
    have := Blk.new (w2.alloc (.cells #[.int .i64 x, .int .i64 y] 24)) 24 #[.int .i64 x', .int .i64 y']
    rwa [World.size_alloc] at this
  have V3 := (V2.alloc V2.size (.cells #[.int .i64 x, .int .i64 y] 24)).alloc (by rw [World.size_alloc]; have := V2.size; omega) (.cells #[.int .i64 x', .int .i64 y'] 24)
  have S3 := (s2.alloc' (.cells #[.int .i64 x, .int .i64 y] 24)).alloc' (.cells #[.int .i64 x', .int .i64 y'] 24)
  have z2 := V2.size
  have hw2 : w.heap.size + 1 < w2.heap.size := by omega
  have ne1 : w.heap.size ≠ w2.heap.size := by omega
  have ne2 : w.heap.size ≠ w2.heap.size + 1 := by omega
  have ne3 : w.heap.size + 1 ≠ w2.heap.size := by omega
  have ne5 : w2.heap.size ≠ w.heap.size := by omega
  have ne6 : w2.heap.size + 1 ≠ w.heap.size := by omega
  have ne7 : w2.heap.size ≠ w.heap.size + 1 := by omega
  have ng1 : w2.heap.size ≠ g := by omega
  have ng2 : w2.heap.size + 1 ≠ g := by omega
  have ng3 : w.heap.size ≠ g := by omega
  have ng4 : w.heap.size + 1 ≠ g := by omega
  clear B1 B1' V1 g2 s1 s2 B2 B2' V2
  cases hok : okF x y
  · have HOK := Lib.hid hok
    clear hok S3
    go_wp2_with fail
    apply Calls.mono
    · with_reducible exact l02Ok_any x y false HOK.out _
    rintro _ w4 ⟨rfl, hb4⟩
    have F4 := F3.below hb4
    have V4 := bthen V3 hb4 V3.size
    obtain ⟨⟨c0, c1, c2, c3⟩, ⟨d0, d1, d2, d3⟩, ⟨f0, f1, f2, f3⟩, z0, z1, z3, z4⟩ := F4.facts
    clear F3 V3 hb4 F4
    go_wp2_with fail
    go_region
    all_goals go_wp2
    all_goals refine bodyPost_ret (by simp [results, Try.results54, go_sem, *]; try rfl) rfl ?_
    all_goals refine ⟨_, _, _, _, rfl, ?_⟩
    all_goals (repeat' (first | (with_reducible exact Below.refl _ _) | (with_reducible assumption) | (with_reducible refine Below.alloc ?_ ?_ _) | (with_reducible refine Below.drew ?_) | (with_reducible refine bdrewN ?_ _) | (with_reducible refine Below.setCell ?_ ?_ _) | (with_reducible refine bthen ?_ (by assumption) ?_) | go_size))
  · obtain ⟨k1, k2, k3, k4⟩ := okF_bd hok
    have HOK := Lib.hid hok
    have kT := fun w => l03Terms_any x y k3 k4 (by omega) k2 w
    clear hok
    go_wp2_with fail
    apply Calls.mono
    · with_reducible exact l02Ok_any x y true HOK.out _
    rintro _ w4 ⟨rfl, hb4⟩
    have F4 := F3.below hb4
    have V4 := bthen V3 hb4 V3.size
    have S4 := S3.below hb4
    obtain ⟨⟨c0, c1, c2, c3⟩, ⟨d0, d1, d2, d3⟩, ⟨f0, f1, f2, f3⟩, z0, z1, z3, z4⟩ := F4.facts
    clear F3 V3 hb4 S3
    go_wp2_with fail
    apply Calls.mono
    · with_reducible exact one_any g 42 2 _ S4 (by omega) (by omega) (by omega)
    rintro _ w5 ⟨t, rfl, s5, g5⟩
    have F5 := F4.grown g5 ng3 ng4 ng1 ng2
    have V5 := bthen V4 (grown_base (B := w.heap.size) (by omega) V4.size g5) (Nat.le_refl _)
    clear F4 V4 S4 g5 c0 c1 c2 c3 d0 d1 d2 d3 f0 f1 f2 f3 z0 z1 z3 z4
    obtain ⟨⟨c0, c1, c2, c3⟩, ⟨d0, d1, d2, d3⟩, ⟨f0, f1, f2, f3⟩, z0, z1, z3, z4⟩ := F5.facts
    cases t
    · clear s5 F5
      go_wp2_with fail
      go_region
      all_goals go_wp2
      all_goals refine bodyPost_ret (by simp [results, Try.results54, go_sem, *]; try rfl) rfl ?_
      all_goals refine ⟨_, _, _, _, rfl, ?_⟩
      all_goals (repeat' (first | (with_reducible exact Below.refl _ _) | (with_reducible assumption) | (with_reducible refine Below.alloc ?_ ?_ _) | (with_reducible refine Below.drew ?_) | (with_reducible refine bdrewN ?_ _) | (with_reducible refine Below.setCell ?_ ?_ _) | (with_reducible refine bthen ?_ (by assumption) ?_) | go_size))
    · have hL60 := exF_len 60 x y
      generalize exF 60 x y = xs at *
      go_wp2_with fail
      apply Calls.mono
      · with_reducible exact kT _
      rintro _ w6 ⟨v, rfl, hown, hb6⟩
      have F6 := F5.below hb6
      have V6 := bthen V5 hb6 V5.size
      have hL := (rd_len (Rd.of_own hown)).2
      clear F5 V5 s5 hb6 c0 c1 c2 c3 d0 d1 d2 d3 f0 f1 f2 f3 z0 z1 z3 z4 kT
      generalize xs.length = L at *
      rcases Nat.lt_or_ge 1 L with hx | hx
      · obtain ⟨k, rfl⟩ : ∃ k, L = k + 1 := ⟨L - 1, by omega⟩
        obtain ⟨ga, cap, rfl, hga1, hga2, hnc, hcm⟩ := own_block hown (by omega)
        have hfr := Rd.of_own (own_front hown (m := k) (by omega))
        rw [show (ints xs).take k = ints (xs.take k) by simp [ints, List.map_take]] at hfr
        have hx1 : (1 : Int) < ((k + 1 : Nat) : Int) := by omega
        have hx2 : ((k + 1 : Nat) : Int) - 1 = (k : Int) := by omega
        have kV := fun w h => valueOfTerms_any (.slice (some ⟨ga, 0, none⟩) k cap) k (xs.take k) w h (by omega)
        obtain ⟨⟨c0, c1, c2, c3⟩, ⟨d0, d1, d2, d3⟩, ⟨f0, f1, f2, f3⟩, z0, z1, z3, z4⟩ := F6.facts
        clear hown
        go_wp2_with fail
        apply Calls.mono
        · with_reducible exact kV _ hfr
        rintro _ w7 ⟨p, q, cc, rfl, hb7⟩
        have F7 := (F6.below hb7).alloc (.cells #[.int .i64 p, .int .i64 q] 24)
        have V7 := (bthen V6 hb7 V6.size)
        have V7' := V7.alloc V7.size (.cells #[.int .i64 p, .int .i64 q] 24)
        have C7 := Blk.new w7 24 #[.int .i64 p, .int .i64 q]
        have e0 := C7.cell 0
        have e1 := C7.cell 1
        clear c0 c1 c2 c3 d0 d1 d2 d3 f0 f1 f2 f3 z0 z1 z3 z4 kV hfr
        have hs7 := hb7.size
        obtain ⟨⟨c0, c1, c2, c3⟩, ⟨d0, d1, d2, d3⟩, ⟨f0, f1, f2, f3⟩, z0, z1, z3, z4⟩ := F7.facts
        have y1 : w7.heap.size ≠ w.heap.size := by have := (F6.below hb7).1.lt; omega
        have y2 : w7.heap.size ≠ w.heap.size + 1 := by have := (F6.below hb7).2.1.lt; omega
        have y3 := y1.symm
        have y4 := y2.symm
        clear F6 F7 V6 hb7 C7
        by_cases hc : cc = 0
        · subst hc
          go_wp2_with fail
          go_region
          all_goals go_wp2
          all_goals refine bodyPost_ret (by simp [results, Try.results54, go_sem, *]; try rfl) rfl ?_
          all_goals refine ⟨_, _, _, _, rfl, ?_⟩
          all_goals (repeat' (first | (with_reducible exact Below.refl _ _) | (with_reducible assumption) | (with_reducible refine Below.alloc ?_ ?_ _) | (with_reducible refine Below.drew ?_) | (with_reducible refine bdrewN ?_ _) | (with_reducible refine Below.setCell ?_ ?_ _) | (with_reducible refine bthen ?_ (by assumption) ?_) | go_size))
        · have hc' : (cc == 0) = false := by simp [hc]
          go_wp2_with fail
          go_region
          all_goals go_wp2
          all_goals refine bodyPost_ret (by simp [results, Try.results54, go_sem, *]; try rfl) rfl ?_
          all_goals refine ⟨_, _, _, _, rfl, ?_⟩
          all_goals (repeat' (first | (with_reducible exact Below.refl _ _) | (with_reducible assumption) | (with_reducible refine Below.alloc ?_ ?_ _) | (with_reducible refine Below.drew ?_) | (with_reducible refine bdrewN ?_ _) | (with_reducible refine Below.setCell ?_ ?_ _) | (with_reducible refine bthen ?_ (by assumption) ?_) | go_size))
      · obtain ⟨⟨c0, c1, c2, c3⟩, ⟨d0, d1, d2, d3⟩, ⟨f0, f1, f2, f3⟩, z0, z1, z3, z4⟩ := F6.facts
        obtain ⟨a, cap, rfl, -⟩ := id (Rd.of_own hown)
        have hx' : ¬ ((1 : Int) < (L : Int)) := by omega
        clear hown F6
        go_wp2_with fail
        go_region
        all_goals go_wp2
        all_goals refine bodyPost_ret (by simp [results, Try.results54, go_sem, *]; try rfl) rfl ?_
        all_goals refine ⟨_, _, _, _, rfl, ?_⟩
        all_goals (repeat' (first | (with_reducible exact Below.refl _ _) | (with_reducible assumption) | (with_reducible refine Below.alloc ?_ ?_ _) | (with_reducible refine Below.drew ?_) | (with_reducible refine bdrewN ?_ _) | (with_reducible refine Below.setCell ?_ ?_ _) | (with_reducible refine bthen ?_ (by assumption) ?_) | go_size))
end Go.Proofs.Ytlmmpeeacjbobaa
