/-
  The surds of a period: both packages' ways.
-/
import Derived.Test.YtkjakgemjhbfoaaPof
import Derived.Deep.RegionLaw
import Derived.Lib.SliceRun
namespace Go.Proofs.Ytkjakgemjhbfoaa
open Go.RowKit

def cyM (p d q : Int) : List (Int × Int) × Int :=
  if okS p d q then (match wk d (p, q) with
    | some (j, m) => ((osn (orb d (p, q)) m).drop j, 0)
    | none => ([], 5)) else ([], 1)
theorem cy_some {p d q : Int} {j m : Nat} (h : okS p d q = true) (hw : wk d (p, q) = some (j, m)) : cyM p d q = ((osn (orb d (p, q)) m).drop j, 0) := by unfold cyM; rw [if_pos h, hw]
theorem cy_none {p d q : Int} (h : okS p d q = true) (hw : wk d (p, q) = none) : cyM p d q = ([], 5) := by unfold cyM; rw [if_pos h, hw]
theorem cy_bad {p d q : Int} (h : okS p d q = false) : cyM p d q = ([], 1) := by unfold cyM; rw [if_neg (by rw [h]; decide)]
theorem cy_len {p d q : Int} {j m : Nat} (h : okS p d q = true) (hw : wk d (p, q) = some (j, m)) : (cyM p d q).1.length = m - j ∧ j < m ∧ m ≤ 400 := by
  obtain ⟨a, b, _⟩ := wk_some hw h
  rw [cy_some h hw]
  refine ⟨?_, a, b⟩
  simp only [List.length_drop, osn_len]
theorem cy_small (p d q : Int) : (cyM p d q).1.length ≤ 400 := by
  cases h : okS p d q
  · rw [cy_bad h]; simp
  · cases hw : wk d (p, q) with
    | none => rw [cy_none h hw]; simp
    | some z =>
      obtain ⟨j, m⟩ := z
      obtain ⟨a, b, c⟩ := cy_len h hw
      omega
def CyP (w : World) (d : Int) (M : List (Int × Int) × Int) (e : Ending) (w' : World) : Prop :=
  ∃ v, e = .returned (.tuple #[v, .int .i64 M.2]) ∧ w'.ownsRow w.heap.size 50 3 v M.1.length (srd d M.1) ∧ Below w.heap.size w w'
theorem srd_drop (d : Int) (xs : List (Int × Int)) (j : Nat) : srd d (xs.drop j) = (srd d xs).drop (j * 3) := by
  induction j generalizing xs with
  | zero => simp
  | succ j ih =>
    cases xs with
    | nil => simp [srd]
    | cons x xs =>
      rw [List.drop_succ_cons, ih]
      rw [show srd d (x :: xs) = .int .i64 x.1 :: .int .i64 d :: .int .i64 x.2 :: srd d xs from rfl, show (j + 1) * 3 = j * 3 + 1 + 1 + 1 by omega]
      rfl
theorem srd_one (d : Int) (xs : List (Int × Int)) : ∀ u ∈ srd d xs, u.oneCell' = true := by
  intro u hu
  simp only [srd, List.mem_flatMap] at hu
  obtain ⟨x, _, hx⟩ := hu
  simp only [List.mem_cons, List.not_mem_nil, or_false] at hx
  rcases hx with rfl | rfl | rfl <;> rfl
set_option maxRecDepth 100000 in
set_option maxHeartbeats 1000000 in
theorem clone_any (g of m c : Nat) (d : Int) (zs : List (Int × Int)) (w : World) (hl : zs.length = m) (hm : m ≤ 1000) (hcell : ∀ j u, (srd d zs)[j]? = some u → w.cell? ⟨g, of + j, none⟩ = some u) (hg : g < w.heap.size) :
    Calls Try.prog 61 #[.slice (some ⟨g, of, none⟩) m c] w (RetRow w 50 3 m (srd d zs)) := by
  obtain ⟨i1, hi1, hy0, hy1, hy2⟩ := info_parts Try.infoS
  have hnews : ∀ j u, (srd d zs)[j]? = some u → (w.alloc (.cells #[] 50)).cell? ((⟨g, of, none⟩ : Addr).add j) = some u := by
    intro j u hu
    rw [addr_add, World.cell?_alloc_lt w _ _ (by simpa using hg)]
    exact hcell j u hu
  have hlen : (srd d zs).length = m * 3 := by rw [srd_len, hl]
  have hone := srd_one d zs
  have H1 := Lib.hid hnews
  have H2 := Lib.hid hlen
  have H3 := Lib.hid hone
  have hnil := fun w => Lib.run_eql_slice_nil (P := Try.prog) w 52 50 (some ⟨g, of, none⟩) m c 0 0 Try.underlying52
  simp only [Option.isNone_some] at hnil
  clear hnews hlen hone hcell hl
  go_enter Try.func61, Try.ntmps61
  go_wp2_with (at_builtin; refine wpList_append_own_at _ rfl (.tmp 5) (.tmp 6) 52 rfl w.heap.size 50 i1 _ 3 24 Try.underlying52 hi1 hy0 hy1 hy2 rfl (by decide) _ 0 [] rfl (own_lit0 w _ _) ⟨g, of, none⟩ m c (srd d zs) rfl H2.out H1.out H3.out (by simp only [maxLen]; omega) (by omega) (by simp) ?_; intro v1 w1 hown1 hgr1 _ hat1)
  go_ret
  refine ⟨v1, rfl, by simpa using hown1, ?_⟩
  exact ((Below.refl _ _).alloc (Nat.le_refl _) _).grown hgr1 (by simp) (fun k hk => by have e : some w.heap.size = some k := hk; injection e with e; omega)
set_option maxHeartbeats 2000000 in
theorem cycleOfI_any (p d q : Int) (w : World) : Calls Try.prog 25 #[.agg #[.int .i64 p, .int .i64 d, .int .i64 q]] w (CyP w d (cyM p d q)) := by
  cases h : okS p d q
  · rw [cy_bad h]
    go_enter Try.func25, Try.ntmps25
    go_wp2_with fail
    apply Calls.mono
    · with_reducible exact validSurd_any _ _ _ false h _
    rintro _ w1 ⟨rfl, hb_w1⟩
    obtain ⟨hc_w1, hf_w1, hs_w1⟩ := bcell hb_w1
    try simp at hs_w1
    have hz_w1_w0 : w.heap.size < w1.heap.size := by omega
    have hy_w1_w0 : w.heap.size ≤ w1.heap.size := by omega
    have hx_w1_w0 : ∀ n : Nat, w.heap.size < w1.heap.size + n := by intro n; omega
    have hv_w1_w0 : ∀ n : Nat, w.heap.size ≤ w1.heap.size + n := by intro n; omega
    go_wp2
    go_ret2
    exact ⟨_, rfl, World.ownsRow_nil _ _ _ _, by repeat' (first | (with_reducible exact Below.refl _ _) | (with_reducible assumption) | (with_reducible refine Below.alloc ?_ ?_ _) | (with_reducible refine Below.drew ?_) | (with_reducible refine bdrewN ?_ _) | (with_reducible refine Below.setCell ?_ ?_ _) | (with_reducible refine bthen ?_ (by assumption) ?_) | go_size)⟩
  · have kP := fun w => surdsOf_any p d q h w
    have hlen := fun {j m} => cy_len (j := j) (m := m) h
    have e1 := fun {j m} => cy_some (j := j) (m := m) h
    have e2 := cy_none h
    generalize orb d (p, q) = o at *
    generalize wk d (p, q) = r at *
    generalize cyM p d q = M at *
    have H := Lib.hid h
    clear h
    go_enter Try.func25, Try.ntmps25
    go_wp2_with fail
    apply Calls.mono
    · with_reducible exact validSurd_any _ _ _ true H.out _
    rintro _ w1 ⟨rfl, hb_w1⟩
    obtain ⟨hc_w1, hf_w1, hs_w1⟩ := bcell hb_w1
    try simp at hs_w1
    have hz_w1_w0 : w.heap.size < w1.heap.size := by omega
    have hy_w1_w0 : w.heap.size ≤ w1.heap.size := by omega
    have hx_w1_w0 : ∀ n : Nat, w.heap.size < w1.heap.size + n := by intro n; omega
    have hv_w1_w0 : ∀ n : Nat, w.heap.size ≤ w1.heap.size + n := by intro n; omega
    go_wp2_with fail
    apply Calls.mono
    · with_reducible exact kP _
    rintro _ w2 (⟨j, m, v, hr, rfl, ho, hb_w2⟩ | ⟨hr, rfl, hb_w2⟩)
    · obtain ⟨l1, hjm, hm4⟩ := hlen hr
      have e3 := e1 hr
      clear hlen e1 e2 kP hr
      subst e3
      simp only at l1
      have q1 := hb_w1.size
      have q2 := hb_w2.size
      rw [World.size_alloc] at q1
      have bel2 : Below w.heap.size w w2 := by repeat' (first | (with_reducible exact Below.refl _ _) | (with_reducible assumption) | (with_reducible refine Below.alloc ?_ ?_ _) | (with_reducible refine Below.drew ?_) | (with_reducible refine bdrewN ?_ _) | (with_reducible refine Below.setCell ?_ ?_ _) | (with_reducible refine bthen ?_ (by assumption) ?_) | go_size)
      obtain ⟨A, c, rfl, hn1, hc1, _, hr1⟩ := Rd.of_own ho
      rcases hr1 with h | ⟨gt, of, rfl, hgt, hcell⟩
      · omega
      have kO : ∀ wx, Below w2.heap.size w2 wx → Calls Try.prog 61 #[.slice (some ⟨gt, of + j * 3, none⟩) (m - j) (c - j)] wx (RetRow wx 50 3 (m - j) (srd d ((osn o m).drop j))) := by
        intro wx hb
        refine clone_any gt (of + j * 3) (m - j) (c - j) d _ wx l1 (by omega) ?_ (Nat.lt_of_lt_of_le hgt hb.size)
        intro t u hu
        rw [hb.cell (p := ⟨gt, of + j * 3 + t, none⟩) hgt, Nat.add_assoc]
        refine hcell (j * 3 + t) u ?_
        rw [srd_drop, List.getElem?_drop] at hu
        exact hu
      have L1 := Lib.hid l1
      clear ho hcell l1
      have hj1 : (j : Int) ≤ (m : Int) := by omega
      have hj2 : (m : Int) ≤ (c : Int) := by omega
      have hj3 : (j : Int) ≤ (c : Int) := by omega
      have hj4 : c ≠ j := by omega
      have hj5 : j ≠ c := by omega
      go_wp2_with fail
      apply Calls.mono
      · with_reducible exact kO _ (Below.refl _ _)
      rintro _ w3 ⟨v1, rfl, ho1, hb_w3⟩
      go_wp2
      go_ret2
      refine ⟨v1, rfl, ?_, bthen bel2 hb_w3 (by omega)⟩
      simp only
      rw [L1.out]
      exact own_base ho1 (by omega)
    · have e3 := e2 hr
      clear hlen e1 e2 kP
      subst e3
      go_wp2
      go_ret2
      exact ⟨_, rfl, World.ownsRow_nil _ _ _ _, by repeat' (first | (with_reducible exact Below.refl _ _) | (with_reducible assumption) | (with_reducible refine Below.alloc ?_ ?_ _) | (with_reducible refine Below.drew ?_) | (with_reducible refine bdrewN ?_ _) | (with_reducible refine Below.setCell ?_ ?_ _) | (with_reducible refine bthen ?_ (by assumption) ?_) | go_size)⟩
end Go.Proofs.Ytkjakgemjhbfoaa
