/-
  The period of a root: the exported functions of both packages.
-/
import Derived.Test.YtemencapmmaljaaUnit
import Derived.Test.YtemencapmmaljaaPof
namespace Go.Proofs.Ytemencapmmaljaa
open Go.RowKit

def rpM (d : Int) : Int × List Int × Int :=
  if inB d 2 1000000 then (if sqB d then (0, [], 6) else (match wk d (0, 1) with
    | some (_, m) => (((isq d.toNat : Nat) : Int), (tmL d (orb d (0, 1)) m).drop 1, 0)
    | none => (0, [], 5))) else (0, [], 2)
def RpP (w : World) (M : Int × List Int × Int) (e : Ending) (w' : World) : Prop :=
  ∃ v, e = .returned (.tuple #[.int .i64 M.1, v, .int .i64 M.2.2]) ∧ w'.ownsRow w.heap.size 2 1 v M.2.1.length (ints M.2.1) ∧ Below w.heap.size w w'
theorem rp_small (d : Int) : (rpM d).2.1.length ≤ 400 := by
  unfold rpM
  split
  · rename_i h1
    obtain ⟨a, b⟩ := inB_iff.1 h1
    split
    · simp
    · rename_i h2
      have R := rootD a b (by simpa using h2)
      cases hw : wk d (0, 1) with
      | none => simp
      | some z =>
        obtain ⟨j, m⟩ := z
        obtain ⟨_, _, h, _⟩ := root_walk R hw
        simp only [List.length_drop, tmL_len]
        omega
  · simp
set_option maxHeartbeats 2000000 in
theorem rootPeriodI_any (d : Int) (w : World) : Calls Try.prog 34 #[.int .i64 d] w (RpP w (rpM d)) := by
  cases h1 : inB d 2 1000000
  · have e : rpM d = (0, [], 2) := by unfold rpM; rw [h1]; rfl
    rw [e]; clear e
    have H1 := Lib.hid h1
    clear h1
    go_enter Try.func34, Try.ntmps34
    go_wp2_with fail
    apply Calls.mono
    · with_reducible exact within_any _ _ _ false H1.out _
    rintro _ w1 ⟨rfl, hb_w1⟩
    obtain ⟨hc_w1, hf_w1, hs_w1⟩ := bcell hb_w1
    try simp at hs_w1
    go_wp2
    go_ret3
    exact ⟨_, rfl, World.ownsRow_nil _ _ _ _, by repeat' (first | (with_reducible exact Below.refl _ _) | (with_reducible assumption) | (with_reducible refine Below.alloc ?_ ?_ _) | (with_reducible refine Below.drew ?_) | (with_reducible refine bdrewN ?_ _) | (with_reducible refine Below.setCell ?_ ?_ _) | (with_reducible refine bthen ?_ (by assumption) ?_) | go_size)⟩
  · obtain ⟨a, b⟩ := inB_iff.1 h1
    have H1 := Lib.hid h1
    cases h2 : sqB d
    · have R := rootD a b h2
      have kR := fun w => rootPeriod_any d _ R w
      have e1 : ∀ m, wk d (0, 1) = some (1, m) → rpM d = (((isq d.toNat : Nat) : Int), (tmL d (orb d (0, 1)) m).drop 1, 0) := fun m hm => by unfold rpM; rw [h1, h2, hm]; rfl
      have e2 : wk d (0, 1) = none → rpM d = (0, [], 5) := fun hm => by unfold rpM; rw [h1, h2, hm]; rfl
      have hlen := fun m => tmL_len d (orb d (0, 1)) m
      have H2 := Lib.hid h2
      unfold RootP at kR
      generalize rpM d = M at *
      generalize wk d (0, 1) = r at *
      generalize orb d (0, 1) = o at *
      generalize ((isq d.toNat : Nat) : Int) = a0 at *
      clear h1 h2 R
      go_enter Try.func34, Try.ntmps34
      go_wp2_with fail
      apply Calls.mono
      · with_reducible exact within_any _ _ _ true H1.out _
      rintro _ w1 ⟨rfl, hb_w1⟩
      obtain ⟨hc_w1, hf_w1, hs_w1⟩ := bcell hb_w1
      try simp at hs_w1
      go_wp2_with fail
      apply Calls.mono
      · with_reducible exact isSquare_any _ (by omega) false H2.out _
      rintro _ w2 ⟨rfl, hb_w2⟩
      obtain ⟨hc_w2, hf_w2, hs_w2⟩ := bcell hb_w2
      try simp at hs_w2
      go_wp2_with fail
      apply Calls.mono
      · with_reducible exact kR _
      rintro _ w3 (⟨m, v, hr, hm2, hm4, rfl, ho, hb_w3⟩ | ⟨hr, rfl, hb_w3⟩)
      · have e3 := e1 m hr
        have hl := hlen m
        clear e1 e2 kR hlen
        subst e3
        go_wp2
        go_ret3
        refine ⟨v, rfl, ?_, by repeat' (first | (with_reducible exact Below.refl _ _) | (with_reducible assumption) | (with_reducible refine Below.alloc ?_ ?_ _) | (with_reducible refine Below.drew ?_) | (with_reducible refine bdrewN ?_ _) | (with_reducible refine Below.setCell ?_ ?_ _) | (with_reducible refine bthen ?_ (by assumption) ?_) | go_size)⟩
        simp only [List.length_drop, hl]
        exact own_base ho (by omega)
      · have e3 := e2 hr
        clear e1 e2 kR hlen
        subst e3
        go_wp2
        go_ret3
        exact ⟨_, rfl, World.ownsRow_nil _ _ _ _, by repeat' (first | (with_reducible exact Below.refl _ _) | (with_reducible assumption) | (with_reducible refine Below.alloc ?_ ?_ _) | (with_reducible refine Below.drew ?_) | (with_reducible refine bdrewN ?_ _) | (with_reducible refine Below.setCell ?_ ?_ _) | (with_reducible refine bthen ?_ (by assumption) ?_) | go_size)⟩
    · have e : rpM d = (0, [], 6) := by unfold rpM; rw [h1, h2]; rfl
      rw [e]; clear e
      have H2 := Lib.hid h2
      clear h1 h2
      go_enter Try.func34, Try.ntmps34
      go_wp2_with fail
      apply Calls.mono
      · with_reducible exact within_any _ _ _ true H1.out _
      rintro _ w1 ⟨rfl, hb_w1⟩
      obtain ⟨hc_w1, hf_w1, hs_w1⟩ := bcell hb_w1
      try simp at hs_w1
      go_wp2_with fail
      apply Calls.mono
      · with_reducible exact isSquare_any _ (by omega) true H2.out _
      rintro _ w2 ⟨rfl, hb_w2⟩
      obtain ⟨hc_w2, hf_w2, hs_w2⟩ := bcell hb_w2
      try simp at hs_w2
      go_wp2
      go_ret3
      exact ⟨_, rfl, World.ownsRow_nil _ _ _ _, by repeat' (first | (with_reducible exact Below.refl _ _) | (with_reducible assumption) | (with_reducible refine Below.alloc ?_ ?_ _) | (with_reducible refine Below.drew ?_) | (with_reducible refine bdrewN ?_ _) | (with_reducible refine Below.setCell ?_ ?_ _) | (with_reducible refine bthen ?_ (by assumption) ?_) | go_size)⟩
set_option maxRecDepth 100000 in
set_option maxHeartbeats 2000000 in
theorem rootPeriodS_any (d : Int) (w : World) : Calls Try.prog 33 #[.int .i64 d] w (RpP w (rpM d)) := by
  cases h1 : inB d 2 1000000
  · have e : rpM d = (0, [], 2) := by unfold rpM; rw [h1]; rfl
    rw [e]; clear e
    have H1 := Lib.hid h1
    clear h1
    go_enter Try.func33, Try.ntmps33
    go_wp2_with fail
    apply Calls.mono
    · with_reducible exact l00In_any _ _ _ false H1.out _
    rintro _ w1 ⟨rfl, hb_w1⟩
    obtain ⟨hc_w1, hf_w1, hs_w1⟩ := bcell hb_w1
    try simp at hs_w1
    go_wp2
    go_ret3
    exact ⟨_, rfl, World.ownsRow_nil _ _ _ _, by repeat' (first | (with_reducible exact Below.refl _ _) | (with_reducible assumption) | (with_reducible refine Below.alloc ?_ ?_ _) | (with_reducible refine Below.drew ?_) | (with_reducible refine bdrewN ?_ _) | (with_reducible refine Below.setCell ?_ ?_ _) | (with_reducible refine bthen ?_ (by assumption) ?_) | go_size)⟩
  · obtain ⟨a, b⟩ := inB_iff.1 h1
    have H1 := Lib.hid h1
    cases h2 : sqB d
    · have R := rootD a b h2
      have kW := fun w => l08Walk_any 0 d 1 (root_ok0 R) w
      have hrw := fun {j m} => root_walk (j := j) (m := m) R
      have h0 : trX d 0 = ((isq d.toNat : Nat) : Int) := (root_zero R).2.1
      have hg0 : ∀ m, 2 ≤ m → (tmL d (orb d (0, 1)) m)[0]? = some ((isq d.toNat : Nat) : Int) := fun m hm => by rw [tm_eq, ← h0, List.getElem?_map, List.getElem?_range (by omega)]; rfl
      have e1 : ∀ j m, wk d (0, 1) = some (j, m) → rpM d = (((isq d.toNat : Nat) : Int), (tmL d (orb d (0, 1)) m).drop 1, 0) := fun j m hm => by unfold rpM; rw [h1, h2, hm]; rfl
      have e2 : wk d (0, 1) = none → rpM d = (0, [], 5) := fun hm => by unfold rpM; rw [h1, h2, hm]; rfl
      have hlen := fun m => tmL_len d (orb d (0, 1)) m
      have H2 := Lib.hid h2
      generalize rpM d = M at *
      generalize wk d (0, 1) = r at *
      generalize orb d (0, 1) = o at *
      generalize ((isq d.toNat : Nat) : Int) = a0 at *
      clear h1 h2 R h0
      cases r with
      | none =>
        have e3 := e2 rfl
        clear e1 e2 hrw hlen hg0
        subst e3
        go_enter Try.func33, Try.ntmps33
        go_wp2_with fail
        apply Calls.mono
        · with_reducible exact l00In_any _ _ _ true H1.out _
        rintro _ w1 ⟨rfl, hb_w1⟩
        obtain ⟨hc_w1, hf_w1, hs_w1⟩ := bcell hb_w1
        try simp at hs_w1
        go_wp2_with fail
        apply Calls.mono
        · with_reducible exact l07Square_any _ (by omega) (by omega) false H2.out _
        rintro _ w2 ⟨rfl, hb_w2⟩
        obtain ⟨hc_w2, hf_w2, hs_w2⟩ := bcell hb_w2
        try simp at hs_w2
        go_wp2_with fail
        apply Calls.mono
        · with_reducible exact kW _
        rintro _ w3 ⟨g, n, vs, vt, fr, rfl, hg, hW, hos, hot, hb_w3, hn, hj⟩
        simp only [Option.isSome_none]
        clear kW
        go_wp2
        go_ret3
        exact ⟨_, rfl, World.ownsRow_nil _ _ _ _, by repeat' (first | (with_reducible exact Below.refl _ _) | (with_reducible assumption) | (with_reducible refine Below.alloc ?_ ?_ _) | (with_reducible refine Below.drew ?_) | (with_reducible refine bdrewN ?_ _) | (with_reducible refine Below.setCell ?_ ?_ _) | (with_reducible refine bthen ?_ (by assumption) ?_) | go_size)⟩
      | some z =>
        obtain ⟨j, m⟩ := z
        obtain ⟨rfl, hm2, hm4, _⟩ := hrw rfl
        have e3 := e1 1 m rfl
        have hl := hlen m
        have hx := hg0 m hm2
        clear e1 e2 hrw hlen hg0
        subst e3
        go_enter Try.func33, Try.ntmps33
        go_wp2_with fail
        apply Calls.mono
        · with_reducible exact l00In_any _ _ _ true H1.out _
        rintro _ w1 ⟨rfl, hb_w1⟩
        obtain ⟨hc_w1, hf_w1, hs_w1⟩ := bcell hb_w1
        try simp at hs_w1
        go_wp2_with fail
        apply Calls.mono
        · with_reducible exact l07Square_any _ (by omega) (by omega) false H2.out _
        rintro _ w2 ⟨rfl, hb_w2⟩
        obtain ⟨hc_w2, hf_w2, hs_w2⟩ := bcell hb_w2
        try simp at hs_w2
        go_wp2_with fail
        apply Calls.mono
        · with_reducible exact kW _
        rintro _ w3 ⟨g, n, vs, vt, fr, rfl, hg, hW, hos, hot, hb_w3, hn, hj⟩
        obtain ⟨rfl, rfl⟩ := hj 1 m rfl
        simp only [Option.isSome_some]
        obtain ⟨A, c, rfl, hn1, hc1, _, hr1⟩ := Rd.of_own hot
        rcases hr1 with h | ⟨gt, of, rfl, hgt, hcell⟩
        · omega
        have q1 := hb_w1.size
        have q2 := hb_w2.size
        have q3 := hb_w3.size
        have bel3 : Below w.heap.size w w3 := by repeat' (first | (with_reducible exact Below.refl _ _) | (with_reducible assumption) | (with_reducible refine Below.alloc ?_ ?_ _) | (with_reducible refine Below.drew ?_) | (with_reducible refine bdrewN ?_ _) | (with_reducible refine Below.setCell ?_ ?_ _) | (with_reducible refine bthen ?_ (by assumption) ?_) | go_size)
        have c1 : w3.cell? ⟨g, 1, none⟩ = some (.slice (some ⟨gt, of, none⟩) m c) := hW.cell 1
        have c2 : w3.cell? ⟨g, 2, none⟩ = some (.int .i64 ((1 : Nat) : Int)) := hW.cell 2
        have c2' : w3.cell? ⟨g, 2, none⟩ = some (.int .i64 1) := c2
        have c3 : w3.cell? ⟨gt, of, none⟩ = some (.int .i64 a0) := hcell 0 _ (ints_get hx)
        have hgw := hW.lt
        have kO : ∀ wx, Below w3.heap.size w3 wx → Calls Try.prog 71 #[.slice (some ⟨gt, of + 1, none⟩) (m - 1) (c - 1)] wx (RetRow wx 2 1 (m - 1) (ints ((tmL d o m).drop 1))) := by
          intro wx hb
          refine l00Own_any gt (of + 1) (m - 1) (c - 1) _ wx (by rw [List.length_drop, hl]) (by omega) ?_ (Nat.lt_of_lt_of_le hgt hb.size)
          intro t u hu
          rw [hb.cell (p := ⟨gt, of + 1 + t, none⟩) hgt, Nat.add_assoc]
          refine hcell (1 + t) u ?_
          rw [ints, List.map_drop, List.getElem?_drop] at hu
          exact hu
        have HL := Lib.hid hl
        clear kW hj hos hot hcell hx hl hc_w1 hf_w1 hc_w2 hf_w2 c2
        have hj1 : (1 : Int) ≤ (m : Int) := by omega
        have hj2 : (m : Int) ≤ (c : Int) := by omega
        have hj3 : (0 : Int) < (m : Int) := by omega
        have hj4 : (1 : Int) ≤ (c : Int) := by omega
        have hj5 : 0 < m := by omega
        have hj6 : c ≠ 1 := by omega
        go_wp2_with fail
        go_region_held3 (fun w' => w'.cell? ⟨g, 1, none⟩ = some (.slice (some ⟨gt, of, none⟩) m c) ∧ w'.cell? ⟨g, 2, none⟩ = some (.int .i64 1) ∧ w'.cell? ⟨gt, of, none⟩ = some (.int .i64 a0))
          (first | exact ⟨(bx_w4.cell (p := ⟨g, 1, none⟩) hgw).trans c1, (bx_w4.cell (p := ⟨g, 2, none⟩) hgw).trans c2', (bx_w4.cell (p := ⟨gt, of, none⟩) hgt).trans c3⟩ | go_keep)
          ((go_at_call 71; refine (kO _ ?_).mono ?_; (first | exact (Below.refl _ _).drew); rintro _ w4 ⟨v1, rfl, ho1, hb_w4⟩; have bx_w4 : Below w3.heap.size w3 w4 := (bthen (Below.refl _ _).drew hb_w4 (Nat.le_refl _))))
        all_goals go_wp2
        all_goals go_ret3
        all_goals
          refine ⟨v1, rfl, ?_, bthen bel3 bx_w4 (by omega)⟩
          simp only [List.length_drop, HL.out]
          exact own_base ho1 (by show w.heap.size ≤ w3.heap.size; omega)
    · have e : rpM d = (0, [], 6) := by unfold rpM; rw [h1, h2]; rfl
      rw [e]; clear e
      have H2 := Lib.hid h2
      clear h1 h2
      go_enter Try.func33, Try.ntmps33
      go_wp2_with fail
      apply Calls.mono
      · with_reducible exact l00In_any _ _ _ true H1.out _
      rintro _ w1 ⟨rfl, hb_w1⟩
      obtain ⟨hc_w1, hf_w1, hs_w1⟩ := bcell hb_w1
      try simp at hs_w1
      go_wp2_with fail
      apply Calls.mono
      · with_reducible exact l07Square_any _ (by omega) (by omega) true H2.out _
      rintro _ w2 ⟨rfl, hb_w2⟩
      obtain ⟨hc_w2, hf_w2, hs_w2⟩ := bcell hb_w2
      try simp at hs_w2
      go_wp2
      go_ret3
      exact ⟨_, rfl, World.ownsRow_nil _ _ _ _, by repeat' (first | (with_reducible exact Below.refl _ _) | (with_reducible assumption) | (with_reducible refine Below.alloc ?_ ?_ _) | (with_reducible refine Below.drew ?_) | (with_reducible refine bdrewN ?_ _) | (with_reducible refine Below.setCell ?_ ?_ _) | (with_reducible refine bthen ?_ (by assumption) ?_) | go_size)⟩
end Go.Proofs.Ytemencapmmaljaa
