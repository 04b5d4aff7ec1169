/-
  The head and the period of a surd: the reference's copies.
-/
import Derived.Test.YtemencapmmaljaaPr2
import Derived.Deep.RegionHeld3
namespace Go.Proofs.Ytemencapmmaljaa
open Go.RowKit

theorem own_lit0 (w : World) (e : TypeId) (size : Nat) : (w.alloc (.cells #[] e)).ownsRow w.heap.size e size (.slice (some ⟨w.heap.size, 0, none⟩) 0 0) 0 [] :=
  World.ownsRow_lit w #[] 0 (Nat.le_refl _) (by simp [maxLen]) (by simp)
theorem addr_add (g of j : Nat) : (⟨g, of, none⟩ : Addr).add j = ⟨g, of + j, none⟩ := by unfold Addr.add; split <;> simp_all
set_option maxHeartbeats 1000000 in
theorem l00Own_any (g of m c : Nat) (zs : List Int) (w : World) (hl : zs.length = m) (hm : m ≤ 1000) (hcell : ∀ j u, (ints zs)[j]? = some u → w.cell? ⟨g, of + j, none⟩ = some u) (hg : g < w.heap.size) :
    Calls Try.prog 71 #[.slice (some ⟨g, of, none⟩) m c] w (RetRow w 2 1 m (ints zs)) := by
  obtain ⟨i1, hi1, hy0, hy1, hy2⟩ := info_parts Try.infoI
  have hnews : ∀ j u, (ints zs)[j]? = some u → (w.alloc (.cells #[] 2)).cell? ((⟨g, of, none⟩ : Addr).add j) = some u := by
    intro j u hu
    rw [addr_add, World.cell?_alloc_lt w _ _ (by simpa using hg)]
    exact hcell j u hu
  have hlen : (ints zs).length = m * 1 := by rw [ints_len, hl, Nat.mul_one]
  have hone := ints_one zs
  have H1 := Lib.hid hnews
  have H2 := Lib.hid hlen
  have H3 := Lib.hid hone
  clear hnews hlen hone hcell hl
  go_enter Try.func71, Try.ntmps71
  go_wp2_with (at_builtin; refine wpList_append_own_at _ rfl (.tmp 3) (.tmp 4) 24 rfl w.heap.size 2 i1 _ 1 8 Try.underlying24 hi1 hy0 hy1 hy2 rfl (by decide) _ 0 [] rfl (own_lit0 w _ _) ⟨g, of, none⟩ m c (ints zs) rfl H2.out H1.out H3.out (by simp only [maxLen]; omega) (by omega) (by simp) ?_; intro v1 w1 hown1 hgr1 _ hat1)
  go_ret
  refine ⟨v1, rfl, by simpa using hown1, ?_⟩
  exact ((Below.refl _ _).alloc (Nat.le_refl _) _).grown hgr1 (by simp) (fun k hk => by have e : some w.heap.size = some k := hk; injection e with e; omega)
set_option maxRecDepth 100000 in
set_option maxHeartbeats 2000000 in
theorem periodOfS_any (p d q : Int) (w : World) : Calls Try.prog 35 #[.agg #[.int .i64 p, .int .i64 d, .int .i64 q]] w (PofP w (prM p d q)) := by
  have kC := fun w => l08Code_any p d q w
  by_cases hc : (prM p d q).2.2 = 0
  · obtain ⟨h, j, m, hw⟩ : okS p d q = true ∧ ∃ j m, wk d (p, q) = some (j, m) := by
      cases h : okS p d q
      · rw [pr_bad h] at hc; cases hc
      · cases hw : wk d (p, q) with
        | none => rw [pr_none h hw] at hc; cases hc
        | some z => exact ⟨rfl, z.1, z.2, rfl⟩
    obtain ⟨l1, l2, hjm, hm4⟩ := pr_len h hw
    have hM := pr_some h hw
    unfold CodeP at kC
    simp only [hc] at kC
    rw [hM] at l1 l2 ⊢
    have HH := Lib.hid h
    have HW := Lib.hid hw
    clear hc h hw hM
    simp only at l1 l2
    generalize orb d (p, q) = o at *
    go_enter Try.func35, Try.ntmps35
    go_wp2_with fail
    apply Calls.mono
    · with_reducible exact kC _
    rintro _ w1 ⟨g, n, vs, vt, fr, rfl, hg, hW, hos, hot, hb_w1, hn, hj⟩
    obtain ⟨rfl, rfl⟩ := hj j m HH.out HW.out
    obtain ⟨A, c, rfl, hn1, hc1, _, hr1⟩ := Rd.of_own hot
    rcases hr1 with h | ⟨gt, of, rfl, hgt, hcell⟩
    · omega
    have s3 : w.heap.size < w1.heap.size := by
      have := hb_w1.size
      rw [World.size_alloc] at this
      omega
    have bel1 : Below w.heap.size w w1 := by repeat' (first | (with_reducible exact Below.refl _ _) | (with_reducible assumption) | (with_reducible refine Below.alloc ?_ ?_ _) | (with_reducible refine Below.drew ?_) | (with_reducible refine bdrewN ?_ _) | (with_reducible refine Below.setCell ?_ ?_ _) | (with_reducible refine bthen ?_ (by assumption) ?_) | go_size)
    have c1 : w1.cell? ⟨g, 1, none⟩ = some (.slice (some ⟨gt, of, none⟩) m c) := hW.cell 1
    have c2 : w1.cell? ⟨g, 2, none⟩ = some (.int .i64 (j : Int)) := hW.cell 2
    have hgw := hW.lt
    have kO1 : ∀ wx, Below w1.heap.size w1 wx → Calls Try.prog 71 #[.slice (some ⟨gt, of, none⟩) j c] wx (RetRow wx 2 1 j (ints ((tmL d o m).take j))) := by
      intro wx hb
      refine l00Own_any gt of j c _ wx l1 (by omega) ?_ (Nat.lt_of_lt_of_le hgt hb.size)
      intro t u hu
      rw [hb.cell (p := ⟨gt, of + t, none⟩) hgt]
      refine hcell t u ?_
      rw [ints, List.map_take, List.getElem?_take] at hu
      split at hu
      · exact hu
      · cases hu
    have kO2 : ∀ wx, Below w1.heap.size w1 wx → Calls Try.prog 71 #[.slice (some ⟨gt, of + j, none⟩) (m - j) (c - j)] wx (RetRow wx 2 1 (m - j) (ints ((tmL d o m).drop j))) := by
      intro wx hb
      refine l00Own_any gt (of + j) (m - j) (c - j) _ wx l2 (by omega) ?_ (Nat.lt_of_lt_of_le hgt hb.size)
      intro t u hu
      rw [hb.cell (p := ⟨gt, of + j + t, none⟩) hgt, Nat.add_assoc]
      refine hcell (j + t) u ?_
      rw [ints, List.map_drop, List.getElem?_drop] at hu
      exact hu
    have L1 := Lib.hid l1
    have L2 := Lib.hid l2
    clear kC hj hos hot hcell l1 l2
    go_wp2_with fail
    have hj1 : (j : Int) ≤ (m : Int) := by omega
    have hj2 : (m : Int) ≤ (c : Int) := by omega
    have hj3 : (j : Int) ≤ (c : Int) := by omega
    go_region_held3 (fun w' => w'.cell? ⟨g, 1, none⟩ = some (.slice (some ⟨gt, of, none⟩) m c) ∧ w'.cell? ⟨g, 2, none⟩ = some (.int .i64 (j : Int)))
      (first | exact ⟨(bx_w2.cell (p := ⟨g, 1, none⟩) hgw).trans c1, (bx_w2.cell (p := ⟨g, 2, none⟩) hgw).trans c2⟩ | exact ⟨(bx_w3.cell (p := ⟨g, 1, none⟩) hgw).trans c1, (bx_w3.cell (p := ⟨g, 2, none⟩) hgw).trans c2⟩ | go_keep)
      (first
        | (go_at_call_of 71 (Value.slice (some (⟨gt, of, none⟩ : Addr)) j c); refine (kO1 _ ?_).mono ?_; (first | exact (Below.refl _ _).drew | exact bx_w3); rintro _ w2 ⟨v1, rfl, ho1, hb_w2⟩; have bx_w2 : Below w1.heap.size w1 w2 := (by first | exact bthen (Below.refl _ _).drew hb_w2 (Nat.le_refl _) | exact bthen bx_w3 hb_w2 bx_w3.size))
        | (go_at_call_of 71 (Value.slice (some (⟨gt, of + j, none⟩ : Addr)) (m - j) (c - j)); refine (kO2 _ ?_).mono ?_; (first | exact (Below.refl _ _).drew | exact bx_w2); rintro _ w3 ⟨v2, rfl, ho2, hb_w3⟩; have bx_w3 : Below w1.heap.size w1 w3 := (by first | exact bthen (Below.refl _ _).drew hb_w3 (Nat.le_refl _) | exact bthen bx_w2 hb_w3 bx_w2.size)))
    all_goals go_wp2
    all_goals go_ret3
    all_goals
      have q2 := bx_w2.size
      have q3 := bx_w3.size
      refine ⟨v1, v2, rfl, ?_, ?_, ?_, ?_⟩
      · simp only; rw [L1.out]; first | exact own_base (own_below ho1 hb_w3 (Nat.le_refl _)) (by first | omega | exact Nat.le_of_lt s3) | exact own_base ho1 (by first | omega | exact Nat.le_of_lt s3)
      · simp only; rw [L2.out]; first | exact own_base (own_below ho2 hb_w2 (Nat.le_refl _)) (by first | omega | exact Nat.le_of_lt s3) | exact own_base ho2 (by first | omega | exact Nat.le_of_lt s3)
      · first | exact own_apart ho1 ho2 (Nat.le_refl _) | exact apart_symm (own_apart ho2 ho1 (Nat.le_refl _))
      · first | exact bthen bel1 bx_w3 (by omega) | exact bthen bel1 bx_w2 (by omega)
  · have hne : ((prM p d q).2.2 != 0) = true := by simpa using hc
    have hE : (prM p d q).1 = [] ∧ (prM p d q).2.1 = [] := by
      cases h : okS p d q
      · rw [pr_bad h]; exact ⟨rfl, rfl⟩
      · cases hw : wk d (p, q) with
        | none => rw [pr_none h hw]; exact ⟨rfl, rfl⟩
        | some z => exact absurd (by rw [pr_some h hw]) hc
    unfold CodeP at kC
    generalize prM p d q = M at *
    obtain ⟨xs, ys, c⟩ := M
    obtain ⟨e1, e2⟩ := hE
    simp only at e1 e2 hc hne kC
    subst e1 e2
    clear hc
    go_enter Try.func35, Try.ntmps35
    go_wp2_with fail
    apply Calls.mono
    · with_reducible exact kC _
    rintro _ w1 ⟨g, n, vs, vt, fr, rfl, hg, hW, hos, hot, hb_w1, hn, hj⟩
    go_wp2
    go_ret3
    exact ⟨_, _, rfl, World.ownsRow_nil _ _ _ _, World.ownsRow_nil _ _ _ _, Or.inl rfl, by repeat' (first | (with_reducible exact Below.refl _ _) | (with_reducible assumption) | (with_reducible refine Below.alloc ?_ ?_ _) | (with_reducible refine Below.drew ?_) | (with_reducible refine bdrewN ?_ _) | (with_reducible refine Below.setCell ?_ ?_ _) | (with_reducible refine bthen ?_ (by assumption) ?_) | go_size)⟩
end Go.Proofs.Ytemencapmmaljaa
