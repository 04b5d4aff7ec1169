/-
  The period of a root: the exported functions of both packages.
-/
import Derived.Test.YtkjakgemjhbfoaaUnit
import Derived.Test.YtkjakgemjhbfoaaPof
namespace Go.Proofs.Ytkjakgemjhbfoaa
open Go.RowKit

def rpM (d : Int) : Int × List Int × Int :=
  if inB d 2 1000000 then (if sqB d then (0, [], 6) else (match wk d (0, 1) with
    | some (_, m) => (((isq d.toNat : Nat) : Int), (tmL d (orb d (0, 1)) m).drop 1, 0)
    | none => (0, [], 5))) else (0, [], 2)
def RpP (w : World) (M : Int × List Int × Int) (e : Ending) (w' : World) : Prop :=
  ∃ v, e = .returned (.tuple #[.int .i64 M.1, v, .int .i64 M.2.2]) ∧ w'.ownsRow w.heap.size 2 1 v M.2.1.length (ints M.2.1) ∧ Below w.heap.size w w'
theorem rp_small (d : Int) : (rpM d).2.1.length ≤ 400 := by
  unfold rpM
  split
  · rename_i h1
    obtain ⟨a, b⟩ := inB_iff.1 h1
    split
    · simp
    · rename_i h2
      have R := rootD a b (by simpa using h2)
      cases hw : wk d (0, 1) with
      | none => simp
      | some z =>
        obtain ⟨j, m⟩ := z
        obtain ⟨_, _, h, _⟩ := root_walk R hw
        simp only [List.length_drop, tmL_len]
        omega
  · simp
set_option maxHeartbeats 2000000 in
theorem rootPeriodI_any (d : Int) (w : World) : Calls Try.prog 18 #[.int .i64 d] w (RpP w (rpM d)) := by
  cases h1 : inB d 2 1000000
  · have e : rpM d = (0, [], 2) := by unfold rpM; rw [h1]; rfl
    rw [e]; clear e
    have H1 := Lib.hid h1
    clear h1
    go_enter Try.func18, Try.ntmps18
    go_wp2_with fail
    apply Calls.mono
    · with_reducible exact within_any _ _ _ false H1.out _
    rintro _ w1 ⟨rfl, hb_w1⟩
    obtain ⟨hc_w1, hf_w1, hs_w1⟩ := bcell hb_w1
    try simp at hs_w1
    go_wp2
    go_ret3
    exact ⟨_, rfl, World.ownsRow_nil _ _ _ _, by repeat' (first | (with_reducible exact Below.refl _ _) | (with_reducible assumption) | (with_reducible refine Below.alloc ?_ ?_ _) | (with_reducible refine Below.drew ?_) | (with_reducible refine bdrewN ?_ _) | (with_reducible refine Below.setCell ?_ ?_ _) | (with_reducible refine bthen ?_ (by assumption) ?_) | go_size)⟩
  · obtain ⟨a, b⟩ := inB_iff.1 h1
    have H1 := Lib.hid h1
    cases h2 : sqB d
    · have R := rootD a b h2
      have kR := fun w => rootPeriod_any d _ R w
      have e1 : ∀ m, wk d (0, 1) = some (1, m) → rpM d = (((isq d.toNat : Nat) : Int), (tmL d (orb d (0, 1)) m).drop 1, 0) := fun m hm => by unfold rpM; rw [h1, h2, hm]; rfl
      have e2 : wk d (0, 1) = none → rpM d = (0, [], 5) := fun hm => by unfold rpM; rw [h1, h2, hm]; rfl
      have hlen := fun m => tmL_len d (orb d (0, 1)) m
      have H2 := Lib.hid h2
      unfold RootP at kR
      generalize rpM d = M at *
      generalize wk d (0, 1) = r at *
      generalize orb d (0, 1) = o at *
      generalize ((isq d.toNat : Nat) : Int) = a0 at *
      clear h1 h2 R
      go_enter Try.func18, Try.ntmps18
      go_wp2_with fail
      apply Calls.mono
      · with_reducible exact within_any _ _ _ true H1.out _
      rintro _ w1 ⟨rfl, hb_w1⟩
      obtain ⟨hc_w1, hf_w1, hs_w1⟩ := bcell hb_w1
      try simp at hs_w1
      go_wp2_with fail
      apply Calls.mono
      · with_reducible exact isSquare_any _ (by omega) false H2.out _
      rintro _ w2 ⟨rfl, hb_w2⟩
      obtain ⟨hc_w2, hf_w2, hs_w2⟩ := bcell hb_w2
      try simp at hs_w2
      go_wp2_with fail
      apply Calls.mono
      · with_reducible exact kR _
      rintro _ w3 (⟨m, v, hr, hm2, hm4, rfl, ho, hb_w3⟩ | ⟨hr, rfl, hb_w3⟩)
      · have e3 := e1 m hr
        have hl := hlen m
        clear e1 e2 kR hlen
        subst e3
        go_wp2
        go_ret3
        refine ⟨v, rfl, ?_, by repeat' (first | (with_reducible exact Below.refl _ _) | (with_reducible assumption) | (with_reducible refine Below.alloc ?_ ?_ _) | (with_reducible refine Below.drew ?_) | (with_reducible refine bdrewN ?_ _) | (with_reducible refine Below.setCell ?_ ?_ _) | (with_reducible refine bthen ?_ (by assumption) ?_) | go_size)⟩
        simp only [List.length_drop, hl]
        exact own_base ho (by omega)
      · have e3 := e2 hr
        clear e1 e2 kR hlen
        subst e3
        go_wp2
        go_ret3
        exact ⟨_, rfl, World.ownsRow_nil _ _ _ _, by repeat' (first | (with_reducible exact Below.refl _ _) | (with_reducible assumption) | (with_reducible refine Below.alloc ?_ ?_ _) | (with_reducible refine Below.drew ?_) | (with_reducible refine bdrewN ?_ _) | (with_reducible refine Below.setCell ?_ ?_ _) | (with_reducible refine bthen ?_ (by assumption) ?_) | go_size)⟩
    · have e : rpM d = (0, [], 6) := by unfold rpM; rw [h1, h2]; rfl
      rw [e]; clear e
      have H2 := Lib.hid h2
      clear h1 h2
      go_enter Try.func18, Try.ntmps18
      go_wp2_with fail
      apply Calls.mono
      · with_reducible exact within_any _ _ _ true H1.out _
      rintro _ w1 ⟨rfl, hb_w1⟩
      obtain ⟨hc_w1, hf_w1, hs_w1⟩ := bcell hb_w1
      try simp at hs_w1
      go_wp2_with fail
      apply Calls.mono
      · with_reducible exact isSquare_any _ (by omega) true H2.out _
      rintro _ w2 ⟨rfl, hb_w2⟩
      obtain ⟨hc_w2, hf_w2, hs_w2⟩ := bcell hb_w2
      try simp at hs_w2
      go_wp2
      go_ret3
      exact ⟨_, rfl, World.ownsRow_nil _ _ _ _, by repeat' (first | (with_reducible exact Below.refl _ _) | (with_reducible assumption) | (with_reducible refine Below.alloc ?_ ?_ _) | (with_reducible refine Below.drew ?_) | (with_reducible refine bdrewN ?_ _) | (with_reducible refine Below.setCell ?_ ?_ _) | (with_reducible refine bthen ?_ (by assumption) ?_) | go_size)⟩
end Go.Proofs.Ytkjakgemjhbfoaa
