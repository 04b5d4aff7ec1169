/-
  The walk along the surds of a surd: the reference's way: its own struct, with the surds, the terms and the index.
-/
import Derived.Test.YtibbokllongomaaDoorWk3
import Derived.Deep.RegionLaw
import Derived.Deep.CutRange
namespace Go.Proofs.YtibbokllongomaaDoor
open Go.RowKit

def tmL (d : Int) (o : Nat → Int × Int) (n : Nat) : List Int := (List.range n).map fun k => tmX d (o k)
theorem tmL_len (d : Int) (o : Nat → Int × Int) (n : Nat) : (tmL d o n).length = n := by simp [tmL]
theorem tmL_succ (d : Int) (o : Nat → Int × Int) (n : Nat) : tmL d o (n + 1) = tmL d o n ++ [tmX d (o n)] := by simp [tmL, List.range_succ]
theorem tmL_get (d : Int) (o : Nat → Int × Int) (n k : Nat) (h : k < n) : (tmL d o n)[k]? = some (tmX d (o k)) := by simp [tmL, h]
theorem ints_snoc (xs : List Int) (x : Int) : ints (xs ++ [x]) = ints xs ++ [.int .i64 x] := by simp [ints]
theorem apart_symm {a b : Option Nat} (h : a = none ∨ a ≠ b) : b = none ∨ b ≠ a := by
  cases b with
  | none => exact Or.inl rfl
  | some k =>
    rcases h with e | e
    · exact Or.inr (by rw [e]; simp)
    · exact Or.inr (fun e2 => e e2.symm)
theorem bthen' {B : Nat} {a b c : World} (h : Below B a b) (k : Below B b c) : Below B a c := h.trans k
def WalkR (w : World) (d : Int) (o : Nat → Int × Int) (r : Option (Nat × Nat)) (k : Nat) (_ : Value) (wr : World) : Prop :=
  ∃ (n : Nat) (vs vt fr : Value), n ≤ 400 ∧ n + k = 401 ∧ wkF d o k n = r ∧ (∀ i, i ≤ n → okX d (o i) = true) ∧
    wr.ownsRow (w.heap.size + 1 + 1) 28 3 vs n (srd d (osn o n)) ∧ wr.ownsRow (w.heap.size + 1 + 1) 2 1 vt n (ints (tmL d o n)) ∧ (vs.ownBlock = none ∨ vs.ownBlock ≠ vt.ownBlock) ∧
    Blk wr w.heap.size 28 #[.int .i64 (o n).1, .int .i64 d, .int .i64 (o n).2] ∧ Blk wr (w.heap.size + 1) 130 #[vs, vt, fr] ∧ Below w.heap.size w wr ∧ w.heap.size + 1 + 1 ≤ wr.heap.size
def MidR (w : World) (d : Int) (o : Nat → Int × Int) (n : Nat) (vs vt fr : Value) (m : Nat) (x y : Int) (wr : World) : Prop :=
  wr.ownsRow (w.heap.size + 1 + 1) 28 3 vs m (srd d (osn o m)) ∧ wr.ownsRow (w.heap.size + 1 + 1) 2 1 vt n (ints (tmL d o n)) ∧ (vs.ownBlock = none ∨ vs.ownBlock ≠ vt.ownBlock) ∧
    Blk wr w.heap.size 28 #[.int .i64 x, .int .i64 d, .int .i64 y] ∧ Blk wr (w.heap.size + 1) 130 #[vs, vt, fr] ∧ Below w.heap.size w wr ∧ w.heap.size + 1 + 1 ≤ wr.heap.size
/-- What the reference's walk leaves. -/
def WalkP (w : World) (d : Int) (o : Nat → Int × Int) (r : Option (Nat × Nat)) (e : Ending) (w' : World) : Prop :=
  ∃ (g n : Nat) (vs vt : Value) (fr : Int), e = .returned (.tuple #[.pointer (some ⟨g, 0, none⟩), .bool r.isSome]) ∧ w.heap.size ≤ g ∧ Blk w' g 130 #[vs, vt, .int .i64 fr] ∧
    w'.ownsRow w.heap.size 28 3 vs n (srd d (osn o n)) ∧ w'.ownsRow w.heap.size 2 1 vt n (ints (tmL d o n)) ∧ Below w.heap.size w w' ∧ n ≤ 401 ∧ (∀ j m, r = some (j, m) → m = n ∧ fr = (j : Int))
set_option maxHeartbeats 4000000 in
set_option maxRecDepth 100000 in
theorem l08Walk_any (p d q : Int) (h : okS p d q = true) (w : World) :
    Calls Tryd.prog 105 #[.agg #[.int .i64 p, .int .i64 d, .int .i64 q]] w (WalkP w d (orb d (p, q)) (wk d (p, q))) := by
  obtain ⟨i0, hi0, hz0, hz1, hz2⟩ := info_parts Tryd.infoS
  obtain ⟨i1, hi1, hy0, hy1, hy2⟩ := info_parts Tryd.infoI
  have ho : ∀ n, orb d (p, q) (n + 1) = nxt d (orb d (p, q) n) := fun n => rfl
  have h0 : okX d (orb d (p, q) 0) = true := h
  have hr : wkF d (orb d (p, q)) 401 0 = wk d (p, q) := rfl
  have e0 : orb d (p, q) 0 = (p, q) := rfl
  generalize wk d (p, q) = r at *
  generalize orb d (p, q) = o at *
  have HO := Lib.hid ho
  have H0 := Lib.hid h0
  have HR := Lib.hid hr
  have E0 := Lib.hid e0
  clear ho h0 hr e0 h
  go_enter Tryd.func105, Tryd.ntmps105
  go_wp2_with fail
  go_loopg [5] 401 (WalkR w d o r)
  case atStart =>
    refine ⟨0, .slice none 0 0, .slice none 0 0, .int .i64 0, by omega, by omega, HR.out, ?_, ?_, ?_, Or.inl rfl, ?_, ?_, ?_, ?_⟩
    · intro i hi
      obtain rfl : i = 0 := by omega
      exact H0.out
    · exact World.ownsRow_nil _ _ _ _
    · exact World.ownsRow_nil _ _ _ _
    · rw [E0.out]; exact (Blk.new w _ _).alloc _
    · have hb := Blk.new (w.alloc (.cells #[.int .i64 p, .int .i64 d, .int .i64 q] 28)) 130 #[.slice none 0 0, .slice none 0 0, .int .i64 0]
      rw [World.size_alloc] at hb
      exact hb
    · repeat' (first | (with_reducible exact Below.refl _ _) | (with_reducible assumption) | (with_reducible refine Below.alloc ?_ ?_ _) | (with_reducible refine Below.drew ?_) | (with_reducible refine bdrewN ?_ _) | (with_reducible refine Below.setCell ?_ ?_ _) | (with_reducible refine bthen ?_ (by assumption) ?_) | go_size)
    · simp
  case round =>
    obtain ⟨n, vs, vt, fr, hn, hnk, hwk, hok, hown, howt, hap, hB, hW, hbw, hsz⟩ := hrel
    obtain ⟨k, rfl⟩ : ∃ k, gk = k + 1 := ⟨gk - 1, by omega⟩
    have hokn := hok n (Nat.le_refl _)
    have c1 : wr.cell? ⟨w.heap.size, 0, none⟩ = some (.int .i64 (o n).1) := hB.cell 0
    have c2 : wr.cell? ⟨w.heap.size, 1, none⟩ = some (.int .i64 d) := hB.cell 1
    have c3 : wr.cell? ⟨w.heap.size, 2, none⟩ = some (.int .i64 (o n).2) := hB.cell 2
    have g1 : wr.cell? ⟨w.heap.size + 1, 0, none⟩ = some vs := hW.cell 0
    have g2 : wr.cell? ⟨w.heap.size + 1, 1, none⟩ = some vt := hW.cell 1
    have g3 : wr.cell? ⟨w.heap.size + 1, 2, none⟩ = some fr := hW.cell 2
    have s1 : w.heap.size < wr.heap.size := by omega
    have s2 : w.heap.size + 1 < wr.heap.size := by omega
    have HOK := Lib.hid hok
    obtain ⟨va, vc, rfl⟩ := row_slice hown
    generalize hx : (o n).1 = x at *
    generalize hy : (o n).2 = y at *
    have HX := Lib.hid hx
    have HY := Lib.hid hy
    have hon : o n = (x, y) := by rw [← hx, ← hy]
    have HON := Lib.hid hon
    clear hok hx hy
    have kF : ∀ wx r', fnI o (x, y) n = r' → Below wr.heap.size wr wx → Calls Tryd.prog 122 #[.slice va n vc, .agg #[.int .i64 x, .int .i64 d, .int .i64 y]] wx (Ret wx (.int .i64 r')) := fun wx r' hr' hb => l08Find_any _ n d o x y wx ((Rd.of_own hown).below hb (Nat.le_refl _)) hn r' hr'
    have KW : ∀ w1, Below wr.heap.size wr w1 → Blk w1 (w.heap.size + 1) 130 #[.slice va n vc, vt, fr] ∧ w1.cell? ⟨w.heap.size + 1, 0, none⟩ = some (.slice va n vc) ∧ w1.cell? ⟨w.heap.size + 1, 1, none⟩ = some vt ∧ w1.cell? ⟨w.heap.size + 1, 2, none⟩ = some fr ∧ w1.frozen? ⟨w.heap.size + 1, 2, none⟩ = false ∧ w.heap.size + 1 < w1.heap.size := fun w1 hb => by
      have hb2 := hW.below hb s2
      exact ⟨hb2, hb2.cell 0, hb2.cell 1, hb2.cell 2, hb2.frozen 2, Nat.lt_of_lt_of_le s2 hb.size⟩
    cases hf : fnd o (o n) n with
    | some j =>
      obtain ⟨hj, _⟩ := fnd_some hf
      have hw : r = some (j, n) := hwk.symm.trans (wkF_hit hf)
      have hfi : fnI o (x, y) n = (j : Int) := by unfold fnI; rw [← HON.out, hf]
      have HW := Lib.hid hw
      have kF2 := fun wx hb => kF wx _ hfi hb
      clear hwk hf hw hfi kF hon
      go_wp2_with fail
      go_region_with (go_at_call 122; refine (kF2 _ ?_).mono ?_; (first | exact Below.refl _ _ | exact (Below.refl _ _).drew); rintro _ w1 ⟨rfl, hb_w1⟩; obtain ⟨m0, m1, m2, m3, m4, m5⟩ := KW w1 (by first | exact hb_w1 | exact bthen (Below.refl _ _).drew hb_w1 (Nat.le_refl _)))
      all_goals have hbb : Below wr.heap.size wr w1 := by first | exact hb_w1 | exact bthen (Below.refl _ _).drew hb_w1 (Nat.le_refl _)
      all_goals have hjn : (0 : Int) ≤ (j : Int) := by omega
      all_goals go_wp2
      all_goals go_ret2
      all_goals
        have s3 := hbb.size
        refine ⟨w.heap.size + 1, n, _, vt, (j : Int), by rw [HW.out]; rfl, by omega, m0.set_ 2 _, own_far (p := ⟨w.heap.size + 1, 2, none⟩) (own_base (own_below hown hbb (Nat.le_refl _)) (by omega)) ?_ _, own_far (p := ⟨w.heap.size + 1, 2, none⟩) (own_base (own_below howt hbb (Nat.le_refl _)) (by omega)) ?_ _, ?_, by omega, ?_⟩
        · intro e; have := (hown.lt _ e).1; simp at this; omega
        · intro e; have := (howt.lt _ e).1; simp at this; omega
        · repeat' (first | (with_reducible exact Below.refl _ _) | (with_reducible assumption) | (with_reducible refine Below.alloc ?_ ?_ _) | (with_reducible refine Below.drew ?_) | (with_reducible refine bdrewN ?_ _) | (with_reducible refine Below.setCell ?_ ?_ _) | (with_reducible refine bthen ?_ (by assumption) ?_) | go_size)
        · intro j' m' e
          rw [HW.out] at e
          injection e with e
          injection e with e1 e2
          exact ⟨e2.symm, by rw [e1]⟩
    | none =>
      have hfi : fnI o (x, y) n = -1 := by unfold fnI; rw [← HON.out, hf]
      have kF2 := fun wx hb => kF wx _ hfi hb
      by_cases hn4 : n = 400
      · have hw : r = none := hwk.symm.trans (wkF_end hf hn4)
        have HW := Lib.hid hw
        have hn4' : (400 : Int) ≤ (n : Int) := by omega
        have NN := Lib.hid hn
        clear hwk hf hw hfi kF hon hn4 hnk hn
        go_wp2_with fail
        go_region_with (go_at_call 122; refine (kF2 _ ?_).mono ?_; (first | exact Below.refl _ _ | exact (Below.refl _ _).drew); rintro _ w1 ⟨rfl, hb_w1⟩; obtain ⟨m0, m1, m2, m3, m4, m5⟩ := KW w1 (by first | exact hb_w1 | exact bthen (Below.refl _ _).drew hb_w1 (Nat.le_refl _)))
        all_goals have hbb : Below wr.heap.size wr w1 := by first | exact hb_w1 | exact bthen (Below.refl _ _).drew hb_w1 (Nat.le_refl _)
        all_goals go_wp2
        all_goals go_ret2
        all_goals
          have s3 := hbb.size
          refine ⟨w.heap.size + 1, n, _, vt, (-1 : Int), by rw [HW.out]; rfl, by omega, m0.set_ 2 _, own_far (p := ⟨w.heap.size + 1, 2, none⟩) (own_base (own_below hown hbb (Nat.le_refl _)) (by omega)) ?_ _, own_far (p := ⟨w.heap.size + 1, 2, none⟩) (own_base (own_below howt hbb (Nat.le_refl _)) (by omega)) ?_ _, ?_, by have := NN.out; omega, ?_⟩
          · intro e; have := (hown.lt _ e).1; simp at this; omega
          · intro e; have := (howt.lt _ e).1; simp at this; omega
          · repeat' (first | (with_reducible exact Below.refl _ _) | (with_reducible assumption) | (with_reducible refine Below.alloc ?_ ?_ _) | (with_reducible refine Below.drew ?_) | (with_reducible refine bdrewN ?_ _) | (with_reducible refine Below.setCell ?_ ?_ _) | (with_reducible refine bthen ?_ (by assumption) ?_) | go_size)
          · intro j' m' e
            rw [HW.out] at e
            injection e
      · have hn4' : ((400 : Int) ≤ (n : Int)) = False := by simp; omega
        have KB : ∀ w1, Below wr.heap.size wr w1 → Blk w1 w.heap.size 28 #[.int .i64 x, .int .i64 d, .int .i64 y] ∧ w1.cell? ⟨w.heap.size, 0, none⟩ = some (.int .i64 x) ∧ w1.cell? ⟨w.heap.size, 1, none⟩ = some (.int .i64 d) ∧ w1.cell? ⟨w.heap.size, 2, none⟩ = some (.int .i64 y) := fun w1 hb => by
          have hb2 := hB.below hb s1
          exact ⟨hb2, hb2.cell 0, hb2.cell 1, hb2.cell 2⟩
        have hokx : okS x d y = true := by have := hokn; rw [HON.out] at this; exact this
        have kL := fun w => l07Floor_any x d y hokx _ rfl w
        have htm : tmX d (o n) = flS x d y := by rw [HON.out]; rfl
        generalize hfa : flS x d y = a at *
        have HTM := Lib.hid htm
        have HTM2 := Lib.hid hfa
        clear hfi kF hon htm hfa
        go_upto_region 2 with fail
        go_cut [] from 10 to 63 (fun wx => MidR w d o n (.slice va n vc) vt (.int .i64 (-1)) n x y wx)
        case first =>
          go_region_with (go_at_call 122; refine (kF2 _ ?_).mono ?_; (first | exact Below.refl _ _ | exact (Below.refl _ _).drew); rintro _ w1 ⟨rfl, hb_w1⟩; obtain ⟨m0, m1, m2, m3, m4, m5⟩ := KW w1 (by first | exact hb_w1 | exact bthen (Below.refl _ _).drew hb_w1 (Nat.le_refl _)))
          all_goals have hbb : Below wr.heap.size wr w1 := by first | exact hb_w1 | exact bthen (Below.refl _ _).drew hb_w1 (Nat.le_refl _)
          all_goals obtain ⟨b0, b1, b2, b3⟩ := KB w1 hbb
          all_goals go_wp2_with fail
          all_goals go_meet
          all_goals
            have z1 := hbb.size
            have n1 : Value.ownBlock (.slice va n vc) ≠ some (w.heap.size + 1) := fun e => by have := (hown.lt _ e).1; omega
            have n2 : Value.ownBlock vt ≠ some (w.heap.size + 1) := fun e => by have := (howt.lt _ e).1; omega
            exact ⟨own_far (p := ⟨w.heap.size + 1, 2, none⟩) (own_below hown hbb (Nat.le_refl _)) n1 _, own_far (p := ⟨w.heap.size + 1, 2, none⟩) (own_below howt hbb (Nat.le_refl _)) n2 _, hap, b0.far (p := ⟨w.heap.size + 1, 2, none⟩) (by simp) _, m0.set_ 2 _, (bthen hbw hbb (by omega)).setCell (by simp) _, by rw [World.size_setCell]; omega⟩
        case rest =>
          clear hown howt hB hW hbw hsz c1 c2 c3 g1 g2 g3 s1 s2 KW KB kF2
          obtain ⟨hown, howt, _, hB, hW, hbw, hsz⟩ := hcut
          have c1 : wc.cell? ⟨w.heap.size, 0, none⟩ = some (.int .i64 x) := hB.cell 0
          have c2 : wc.cell? ⟨w.heap.size, 1, none⟩ = some (.int .i64 d) := hB.cell 1
          have c3 : wc.cell? ⟨w.heap.size, 2, none⟩ = some (.int .i64 y) := hB.cell 2
          have g1 : wc.cell? ⟨w.heap.size + 1, 0, none⟩ = some (.slice va n vc) := hW.cell 0
          have g2 : wc.cell? ⟨w.heap.size + 1, 1, none⟩ = some vt := hW.cell 1
          have g3 : wc.cell? ⟨w.heap.size + 1, 2, none⟩ = some (.int .i64 (-1)) := hW.cell 2
          have s1 : w.heap.size < wc.heap.size := by omega
          have s2 : w.heap.size + 1 < wc.heap.size := by omega
          go_wp2_with fail
          apply Calls.mono
          · with_reducible exact kL _
          rintro _ w2 ⟨rfl, hb_w2⟩
          have hs2 := hb_w2.size
          have hB2 := hB.below hb_w2 s1
          have hW2 := hW.below hb_w2 s2
          have ho2 := own_below hown hb_w2 (Nat.le_refl _)
          have ht2 := own_below howt hb_w2 (Nat.le_refl _)
          have bel2 := bthen hbw hb_w2 (by omega)
          have d1 : w2.cell? ⟨w.heap.size, 0, none⟩ = some (.int .i64 x) := hB2.cell 0
          have d2 : w2.cell? ⟨w.heap.size, 1, none⟩ = some (.int .i64 d) := hB2.cell 1
          have d3 : w2.cell? ⟨w.heap.size, 2, none⟩ = some (.int .i64 y) := hB2.cell 2
          have d4 : w2.cell? ⟨w.heap.size + 1, 0, none⟩ = some (.slice va n vc) := hW2.cell 0
          have d5 : w2.frozen? ⟨w.heap.size + 1, 0, none⟩ = false := hW2.frozen 0
          have n1 : Value.ownBlock (.slice va n vc) ≠ some (w.heap.size + 1) := fun e => by have := (ho2.lt _ e).1; omega
          have KD : ∀ wa w3, Below w2.heap.size w2 wa → wa.grownBy w3 (Value.ownBlock (.slice va n vc)) → (w3.cell? ⟨w.heap.size + 1, 0, none⟩ = some (.slice va n vc) ∧ w3.frozen? ⟨w.heap.size + 1, 0, none⟩ = false) ∧ Blk w3 w.heap.size 28 #[.int .i64 x, .int .i64 d, .int .i64 y] ∧ Blk w3 (w.heap.size + 1) 130 #[.slice va n vc, vt, .int .i64 (-1)] ∧ w3.ownsRow (w.heap.size + 1 + 1) 2 1 vt n (ints (tmL d o n)) ∧ w2.heap.size ≤ w3.heap.size ∧ Below w.heap.size w2 w3 := fun wa w3 hba hg => by
            have hb1 := (hB2.below hba (by omega)).grown hg (fun e => by have := (ho2.lt _ e.symm).1; omega)
            have hb2 := (hW2.below hba (by omega)).grown hg (fun e => n1 e.symm)
            exact ⟨⟨hb2.cell 0, hb2.frozen 0⟩, hb1, hb2, (own_below ht2 hba (Nat.le_refl _)).kept hg (apart_symm hap), Nat.le_trans hba.size hg.size, (hba.mono (by omega)).grown hg (by have := hba.size; omega) (fun k hk => by have := (ho2.lt k hk).1; omega)⟩
          have y1 : w.heap.size < w2.heap.size := by omega
          have y2 : w.heap.size + 1 < w2.heap.size := by omega
          have y3 : w.heap.size + 1 ≠ w2.heap.size := by omega
          have y4 : w.heap.size ≠ w2.heap.size := by omega
          have hsn : srd d (osn o (n + 1)) = srd d (osn o n) ++ [.int .i64 x, .int .i64 d, .int .i64 y] := by rw [osn_succ, srd_snoc, HON.out]
          have HSN := Lib.hid hsn
          clear hown howt hB hW hbw c1 c2 c3 g1 g2 g3 hsn
          go_upto_region 8 with fail
          go_cut [] from 10 to 63 (fun wx => ∃ v3, MidR w d o n v3 vt (.int .i64 (-1)) (n + 1) x y wx)
          case first =>
            go_region_law ((refine step_append_lies _ (by rfl) _ _ _ (by rfl) (w.heap.size + 1 + 1) 28 i0 _ 3 24 Tryd.underlying128 hi0 hz0 hz1 hz2 (by rfl) (by decide) (.slice va n vc) n (srd d (osn o n)) (by rfl) (by first | exact ho2.alloc _ | exact (own_below ho2 (Below.refl _ _).drew (Nat.le_refl _)).alloc _) ⟨w2.heap.size, 0, none⟩ 1 1 [.int .i64 x, .int .i64 d, .int .i64 y] (by rfl) (by rfl) (World.news_of_block (cs := #[.int .i64 x, .int .i64 d, .int .i64 y]) (t := 28) (fr := (0, 0)) (heap_alloc_new _ _)) (by simp [Value.oneCell']) (by omega) (by simp only [maxLen]; omega) (by omega) (by simp; omega) (w2.heap.size + 1) (by simp) ?_; intro g3 cap3 w3 hown3 hgr3 hat3 hlt3; obtain ⟨⟨e1, e2⟩, e3, e4, e5, e6, e7⟩ := KD _ w3 (by first | exact (Below.refl _ _).alloc (Nat.le_refl _) _ | exact ((Below.refl _ _).alloc (Nat.le_refl _) _).drew | exact ((Below.refl _ _).drew).alloc (by simp) _) hgr3))
            all_goals go_wp2_with fail
            all_goals go_meet
            all_goals
              have k1 : Value.ownBlock (.slice (some ⟨g3, 0, none⟩) (n + 1) cap3) ≠ some (w.heap.size + 1) := fun e => by have := (hown3.lt _ e).1; omega
              have k2 : Value.ownBlock vt ≠ some (w.heap.size + 1) := fun e => by have := (e5.lt _ e).1; omega
              refine ⟨.slice (some ⟨g3, 0, none⟩) (n + 1) cap3, own_far (p := ⟨w.heap.size + 1, 0, none⟩) (by rw [HSN.out]; exact hown3) k1 _, own_far (p := ⟨w.heap.size + 1, 0, none⟩) e5 k2 _, ?_, e3.far (p := ⟨w.heap.size + 1, 0, none⟩) (by simp) _, e4.set_ 0 _, (bthen' bel2 e7).setCell (by simp) _, by rw [World.size_setCell]; omega⟩
              right
              intro e
              rcases hat3 with h | h
              · rcases hap with h2 | h2
                · rw [h2] at h; injection h
                · exact h2 (h.trans e)
              · have := (ht2.lt g3 e.symm).2
                omega
          case rest =>
            clear hB2 hW2 ho2 ht2 bel2 d1 d2 d3 d4 d5 n1 KD y1 y2 y3 y4 hb_w2 hs2 hap HSN
            obtain ⟨v3, ho3, ht3, ha3, hB3, hW3, bel3, hz3⟩ := hcut
            have h1 : wc.cell? ⟨w.heap.size + 1, 1, none⟩ = some vt := hW3.cell 1
            have y1 : w.heap.size < wc.heap.size := by omega
            have y2 : w.heap.size + 1 < wc.heap.size := by omega
            have y3 : w.heap.size + 1 ≠ wc.heap.size := by omega
            have y4 : w.heap.size ≠ wc.heap.size := by omega
            have n2 : Value.ownBlock vt ≠ some (w.heap.size + 1) := fun e => by have := (ht3.lt _ e).1; omega
            have KE : ∀ w4, (wc.alloc (.cells #[.int .i64 a] 2)).grownBy w4 vt.ownBlock → (w4.cell? ⟨w.heap.size + 1, 1, none⟩ = some vt ∧ w4.frozen? ⟨w.heap.size + 1, 1, none⟩ = false ∧ w4.cell? ⟨w.heap.size, 0, none⟩ = some (.int .i64 x) ∧ w4.cell? ⟨w.heap.size, 1, none⟩ = some (.int .i64 d) ∧ w4.cell? ⟨w.heap.size, 2, none⟩ = some (.int .i64 y)) ∧ Blk w4 w.heap.size 28 #[.int .i64 x, .int .i64 d, .int .i64 y] ∧ Blk w4 (w.heap.size + 1) 130 #[v3, vt, .int .i64 (-1)] ∧ w4.ownsRow (w.heap.size + 1 + 1) 28 3 v3 (n + 1) (srd d (osn o (n + 1))) ∧ (w.heap.size + 1 < w4.heap.size ∧ wc.heap.size + 1 ≤ w4.heap.size) ∧ Below w.heap.size w w4 := fun w4 hg => by
              have hb1 := (hB3.alloc (.cells #[.int .i64 a] 2)).grown hg (fun e => by have := (ht3.lt _ e.symm).1; omega)
              have hb2 := (hW3.alloc (.cells #[.int .i64 a] 2)).grown hg (fun e => n2 e.symm)
              have hs := hg.size
              rw [World.size_alloc] at hs
              exact ⟨⟨hb2.cell 1, hb2.frozen 1, hb1.cell 0, hb1.cell 1, hb1.cell 2⟩, hb1, hb2, (ho3.alloc _).kept hg ha3, ⟨by omega, hs⟩, (bel3.alloc (by omega) _).grown hg (by rw [World.size_alloc]; omega) (fun k hk => by have := (ht3.lt k hk).1; omega)⟩
            have hti : ints (tmL d o (n + 1)) = ints (tmL d o n) ++ [.int .i64 a] := by rw [tmL_succ, ints_snoc, HTM.out]
            have HTI := Lib.hid hti
            have hnx := HO.out n
            have hcx : (o (n + 1)).1 = hdS x d y ∧ (o (n + 1)).2 = tlS x d y := by rw [hnx, HON.out]; exact ⟨rfl, rfl⟩
            have hav : ∀ (g4 cap4 : Nat), (vt.ownBlock = some g4 ∨ g4 = wc.heap.size + 1) → v3.ownBlock = none ∨ v3.ownBlock ≠ Value.ownBlock (.slice (some ⟨g4, 0, none⟩) (n + 1) cap4) := by
              intro g4 cap4 h
              rcases h with h | h
              · rcases ha3 with e | e
                · exact Or.inl e
                · right; intro e2; exact e (e2.trans h.symm)
              · right
                intro e
                have := (ho3.lt g4 e).2
                omega
            cases hb : okX d (o (n + 1))
            · have hw : r = none := hwk.symm.trans (wkF_bad hf hb)
              have HW := Lib.hid hw
              have hb' : okS (hdS x d y) d (tlS x d y) = false := by rw [← hcx.1, ← hcx.2]; exact hb
              obtain ⟨a', b', c', kN⟩ : ∃ a' b' c', ∀ w, Calls Tryd.prog 48 #[.agg #[.int .i64 x, .int .i64 d, .int .i64 y], .int .i64 a] w (Ret w (.tuple #[.agg #[.int .i64 a', .int .i64 b', .int .i64 c'], .bool false])) := by
                rw [← HTM2.out]
                cases hin : inB (hdS x d y) (-1000000) 1000000
                · exact ⟨_, _, _, fun w => l07Next_out x d y hokx hin w⟩
                · exact ⟨_, _, _, fun w => l07Next_in x d y hokx hin false hb' w⟩
              clear hwk hw hcx hnx hb hb' hti hf hn4'
              go_wp2_with (at_builtin; refine wpList_append_lies _ rfl (.tmp 48) (.tmp 50) 24 rfl (w.heap.size + 1 + 1) 2 i1 _ 1 8 Tryd.underlying24 hi1 hy0 hy1 hy2 rfl (by decide) _ n (ints (tmL d o n)) rfl (ht3.alloc _) ⟨wc.heap.size, 0, none⟩ 1 1 [.int .i64 a] rfl rfl (World.news_of_block (cs := #[.int .i64 a]) (t := 2) (fr := (0, 0)) (heap_alloc_new wc _)) (by simp [Value.oneCell']) (by decide) (by simp only [maxLen]; omega) (by omega) (by simp; omega) (wc.heap.size + 1) (by simp) ?_; intro g4 cap4 w4 hown4 hgr4 hat4 hlt4; obtain ⟨⟨e1, e2, e3, e4, e5⟩, e6, e7, e8, ⟨e9, e11⟩, e10⟩ := KE _ hgr4)
              apply Calls.mono
              · with_reducible exact kN _
              rintro _ w6 ⟨rfl, hb_w6⟩
              have hs6 := hb_w6.size
              rw [World.size_setCell] at hs6
              have k1 : Value.ownBlock v3 ≠ some (w.heap.size + 1) := fun e => by have := (ho3.lt _ e).1; omega
              have k2 : Value.ownBlock (.slice (some ⟨g4, 0, none⟩) (n + 1) cap4) ≠ some (w.heap.size + 1) := fun e => by have := (hown4.lt _ e).1; omega
              have ho6 := own_below (own_far (p := ⟨w.heap.size + 1, 1, none⟩) e8 k1 (.slice (some ⟨g4, 0, none⟩) (n + 1) cap4)) hb_w6 (Nat.le_refl _)
              have ht6 := own_below (own_far (p := ⟨w.heap.size + 1, 1, none⟩) hown4 k2 (.slice (some ⟨g4, 0, none⟩) (n + 1) cap4)) hb_w6 (Nat.le_refl _)
              rw [← HTI.out] at ht6
              have hW6 := (e7.set_ 1 (.slice (some ⟨g4, 0, none⟩) (n + 1) cap4)).below hb_w6 (by rw [World.size_setCell]; omega)
              have bel6 : Below w.heap.size w w6 := bthen (e10.setCell (p := ⟨w.heap.size + 1, 1, none⟩) (by simp) (.slice (some ⟨g4, 0, none⟩) (n + 1) cap4)) hb_w6 (by rw [World.size_setCell]; omega)
              go_wp2
              go_ret2
              refine ⟨w.heap.size + 1, n + 1, v3, (.slice (some ⟨g4, 0, none⟩) (n + 1) cap4), -1, by rw [HW.out]; rfl, by omega, hW6.alloc _, (own_base ho6 (by omega)).alloc _, (own_base ht6 (by omega)).alloc _, bel6.alloc (by omega) _, by omega, ?_⟩
              intro j' m' e
              rw [HW.out] at e
              injection e
            · have hw : wkF d o k (n + 1) = r := (wkF_on hf hn4 hb).symm.trans hwk
              have HW := Lib.hid hw
              have HB := Lib.hid hb
              have hb' : okS (hdS x d y) d (tlS x d y) = true := by rw [← hcx.1, ← hcx.2]; exact hb
              have hin : inB (hdS x d y) (-1000000) 1000000 = true := by
                obtain ⟨_, _, q1, q2, _⟩ := okS_bd hb'
                exact inB_iff.2 ⟨q1, q2⟩
              have kN : ∀ w, Calls Tryd.prog 48 #[.agg #[.int .i64 x, .int .i64 d, .int .i64 y], .int .i64 a] w (Ret w (.tuple #[.agg #[.int .i64 (o (n + 1)).1, .int .i64 d, .int .i64 (o (n + 1)).2], .bool true])) := by
                intro w
                rw [← HTM2.out, hcx.1, hcx.2]
                exact l07Next_in x d y hokx hin true hb' w
              generalize hx' : (o (n + 1)).1 = x' at *
              generalize hy' : (o (n + 1)).2 = y' at *
              have HX' := Lib.hid hx'
              have HY' := Lib.hid hy'
              clear hx' hy' hin
              clear hwk hw hcx hnx hb hb' hti hf hn4'
              go_wp2_with (at_builtin; refine wpList_append_lies _ rfl (.tmp 48) (.tmp 50) 24 rfl (w.heap.size + 1 + 1) 2 i1 _ 1 8 Tryd.underlying24 hi1 hy0 hy1 hy2 rfl (by decide) _ n (ints (tmL d o n)) rfl (ht3.alloc _) ⟨wc.heap.size, 0, none⟩ 1 1 [.int .i64 a] rfl rfl (World.news_of_block (cs := #[.int .i64 a]) (t := 2) (fr := (0, 0)) (heap_alloc_new wc _)) (by simp [Value.oneCell']) (by decide) (by simp only [maxLen]; omega) (by omega) (by simp; omega) (wc.heap.size + 1) (by simp) ?_; intro g4 cap4 w4 hown4 hgr4 hat4 hlt4; obtain ⟨⟨e1, e2, e3, e4, e5⟩, e6, e7, e8, ⟨e9, e11⟩, e10⟩ := KE _ hgr4)
              apply Calls.mono
              · with_reducible exact kN _
              rintro _ w6 ⟨rfl, hb_w6⟩
              have hs6 := hb_w6.size
              rw [World.size_setCell] at hs6
              have k1 : Value.ownBlock v3 ≠ some (w.heap.size + 1) := fun e => by have := (ho3.lt _ e).1; omega
              have k2 : Value.ownBlock (.slice (some ⟨g4, 0, none⟩) (n + 1) cap4) ≠ some (w.heap.size + 1) := fun e => by have := (hown4.lt _ e).1; omega
              have ho6 := own_below (own_far (p := ⟨w.heap.size + 1, 1, none⟩) e8 k1 (.slice (some ⟨g4, 0, none⟩) (n + 1) cap4)) hb_w6 (Nat.le_refl _)
              have ht6 := own_below (own_far (p := ⟨w.heap.size + 1, 1, none⟩) hown4 k2 (.slice (some ⟨g4, 0, none⟩) (n + 1) cap4)) hb_w6 (Nat.le_refl _)
              rw [← HTI.out] at ht6
              have hW6 := (e7.set_ 1 (.slice (some ⟨g4, 0, none⟩) (n + 1) cap4)).below hb_w6 (by rw [World.size_setCell]; omega)
              have bel6 : Below w.heap.size w w6 := bthen (e10.setCell (p := ⟨w.heap.size + 1, 1, none⟩) (by simp) (.slice (some ⟨g4, 0, none⟩) (n + 1) cap4)) hb_w6 (by rw [World.size_setCell]; omega)
              have hB6 := (e6.far (p := ⟨w.heap.size + 1, 1, none⟩) (by simp) (.slice (some ⟨g4, 0, none⟩) (n + 1) cap4)).below hb_w6 (by rw [World.size_setCell]; omega)
              have c1 : w6.cell? ⟨w.heap.size, 0, none⟩ = some (.int .i64 x) := hB6.cell 0
              have c2 : w6.cell? ⟨w.heap.size, 1, none⟩ = some (.int .i64 d) := hB6.cell 1
              have c3 : w6.cell? ⟨w.heap.size, 2, none⟩ = some (.int .i64 y) := hB6.cell 2
              have f1 : w6.frozen? ⟨w.heap.size, 0, none⟩ = false := hB6.frozen 0
              have f2 : w6.frozen? ⟨w.heap.size, 1, none⟩ = false := hB6.frozen 1
              have f3 : w6.frozen? ⟨w.heap.size, 2, none⟩ = false := hB6.frozen 2
              have s5 : w.heap.size < w6.heap.size := by omega
              go_wp2
              go_roundg k
              case measure => omega
              case rel =>
                have ne1 : v3.ownBlock ≠ some w.heap.size := fun e => by have := (ho6.lt _ e).1; omega
                have ne2 : Value.ownBlock (.slice (some ⟨g4, 0, none⟩) (n + 1) cap4) ≠ some w.heap.size := fun e => by have := (ht6.lt _ e).1; omega
                refine ⟨n + 1, v3, (.slice (some ⟨g4, 0, none⟩) (n + 1) cap4), .int .i64 (-1), by omega, by omega, HW.out, ?_, ?_, ?_, hav g4 cap4 hat4, ?_, ?_, ?_, ?_⟩
                · intro i hi
                  rcases Nat.lt_or_ge n i with g | g
                  · obtain rfl : i = n + 1 := by omega
                    exact HB.out
                  · exact HOK.out i g
                · exact (own_far (p := ⟨w.heap.size, 2, none⟩) (own_far (p := ⟨w.heap.size, 1, none⟩) (own_far (p := ⟨w.heap.size, 0, none⟩) ho6 ne1 _) ne1 _) ne1 _).alloc _
                · exact (own_far (p := ⟨w.heap.size, 2, none⟩) (own_far (p := ⟨w.heap.size, 1, none⟩) (own_far (p := ⟨w.heap.size, 0, none⟩) ht6 ne2 _) ne2 _) ne2 _).alloc _
                · rw [HX'.out, HY'.out]; exact (hB6.set3 _ _ _).alloc _
                · exact (((hW6.far (p := ⟨w.heap.size, 0, none⟩) (by simp) _).far (p := ⟨w.heap.size, 1, none⟩) (by simp) _).far (p := ⟨w.heap.size, 2, none⟩) (by simp) _).alloc _
                · repeat' (first | (with_reducible exact Below.refl _ _) | (with_reducible assumption) | (with_reducible refine Below.alloc ?_ ?_ _) | (with_reducible refine Below.drew ?_) | (with_reducible refine bdrewN ?_ _) | (with_reducible refine Below.setCell ?_ ?_ _) | (with_reducible refine bthen ?_ (by assumption) ?_) | go_size)
                · simp; omega
end Go.Proofs.YtibbokllongomaaDoor
