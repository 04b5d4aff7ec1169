/-
  What the loops of ReadPath keep.
-/
import Derived.Test.YtlmmpeeacjbobaaDoorRpl
import Derived.Test.YtlmmpeeacjbobaaDoorRe
import Derived.Test.YtlmmpeeacjbobaaDoorSs
import Derived.Test.YtlmmpeeacjbobaaDoorVp
import Derived.Test.YtlmmpeeacjbobaaDoorApp
namespace Go.Proofs.YtlmmpeeacjbobaaDoor
open Go.RowKit

theorem drop_cons' {ws : List (List UInt8)} {i : Nat} {x : List UInt8} (h : ws[i]? = some x) : ws.drop i = x :: ws.drop (i + 1) := by
  obtain ⟨hlt, he⟩ := List.getElem?_eq_some_iff.1 h
  rw [List.drop_eq_getElem_cons hlt, he]
/-- The reference's state: the words read so far. -/
def RpS (ws : List (List UInt8)) (M : Option (List Int)) (i : Nat) (xs : List Int) : Prop :=
  (i = 0 ∧ xs = [] ∧ sW ws = M) ∨ (1 ≤ i ∧ (sQ xs.length (ws.drop i)).map (xs ++ ·) = M)
/-- The program's state. -/
def RpI (ws : List (List UInt8)) (M : Option (List Int)) (i : Nat) (xs : List Int) : Prop :=
  (i = 0 ∧ xs = [] ∧ iW ws = M) ∨ (1 ≤ i ∧ (iQ (ws.drop i)).map (xs ++ ·) = M)
theorem sq_short {x : List UInt8} {r : List (List UInt8)} (h : x.length < 2) (t : Nat) : sQ t (x :: r) = none := by unfold sQ; rw [if_pos h]
theorem iq_short {x : List UInt8} {r : List (List UInt8)} (h : x.length < 2) : iQ (x :: r) = none := by unfold iQ; rw [if_pos h]
theorem rps_short {ws : List (List UInt8)} {M : Option (List Int)} {i : Nat} {xs : List Int} {x : List UInt8} (h : RpS ws M i xs) (hx : ws[i]? = some x) (hl : x.length < 2) : M = none := by
  rcases h with ⟨rfl, _, h⟩ | ⟨_, h⟩
  · have e := drop_cons' hx
    rw [List.drop_zero] at e
    rw [← h]; unfold sW
    rw [e, sq_short hl, sq_short hl]
    split <;> rfl
  · rw [drop_cons' hx, sq_short hl] at h
    exact h.symm
theorem rpi_short {ws : List (List UInt8)} {M : Option (List Int)} {i : Nat} {xs : List Int} {x : List UInt8} (h : RpI ws M i xs) (hx : ws[i]? = some x) (hl : x.length < 2) : M = none := by
  rcases h with ⟨rfl, _, h⟩ | ⟨_, h⟩
  · have e := drop_cons' hx
    rw [List.drop_zero] at e
    rw [← h]; unfold iW
    rw [e, iq_short hl]
    split <;> rfl
  · rw [drop_cons' hx, iq_short hl] at h
    exact h.symm
theorem rps_L {ws : List (List UInt8)} {M : Option (List Int)} {xs : List Int} {x : List UInt8} (h : RpS ws M 0 xs) (hx : ws[0]? = some x) (hL : x.head? = some 76) : xs = [] ∧ (sQ 1 (ws.drop 0)).map ([0] ++ ·) = M := by
  rcases h with ⟨_, hxs, h⟩ | ⟨h, _⟩
  · refine ⟨hxs, ?_⟩
    have hl : isL ws = true := by
      have e := drop_cons' hx
      rw [List.drop_zero] at e
      rw [e]; show (x.head? == some 76) = true; rw [hL]; rfl
    unfold sW at h
    rw [hl, if_pos rfl] at h
    exact h
  · omega
theorem rpi_L {ws : List (List UInt8)} {M : Option (List Int)} {xs : List Int} {x : List UInt8} (h : RpI ws M 0 xs) (hx : ws[0]? = some x) (hL : x.head? = some 76) : xs = [] ∧ (iQ (ws.drop 0)).map ([0] ++ ·) = M := by
  rcases h with ⟨_, hxs, h⟩ | ⟨h, _⟩
  · refine ⟨hxs, ?_⟩
    have hl : isL ws = true := by
      have e := drop_cons' hx
      rw [List.drop_zero] at e
      rw [e]; show (x.head? == some 76) = true; rw [hL]; rfl
    unfold iW at h
    rw [hl, if_pos rfl] at h
    exact h
  · omega
theorem rps_zero {ws : List (List UInt8)} {M : Option (List Int)} {xs : List Int} (h : RpS ws M 0 xs) : xs = [] := by
  rcases h with ⟨_, h, _⟩ | ⟨h, _⟩
  · exact h
  · omega
theorem rpi_zero {ws : List (List UInt8)} {M : Option (List Int)} {xs : List Int} (h : RpI ws M 0 xs) : xs = [] := by
  rcases h with ⟨_, h, _⟩ | ⟨h, _⟩
  · exact h
  · omega
theorem map_nil_app (o : Option (List Int)) : o.map (([] : List Int) ++ ·) = o := by cases o <;> rfl
theorem rps_go {ws : List (List UInt8)} {M : Option (List Int)} {i : Nat} {xs : List Int} {x : List UInt8} (h : RpS ws M i xs) (hx : ws[i]? = some x) (hn : i = 0 → x.head? ≠ some 76) : (sQ xs.length (ws.drop i)).map (xs ++ ·) = M := by
  rcases h with ⟨rfl, rfl, h⟩ | ⟨_, h⟩
  · have hl : isL ws = false := by
      have e := drop_cons' hx
      rw [List.drop_zero] at e
      rw [e]; unfold isL
      exact beq_eq_false_iff_ne.2 (hn rfl)
    unfold sW at h
    rw [hl, if_neg (by decide)] at h
    rw [map_nil_app]
    exact h
  · exact h
theorem rpi_go {ws : List (List UInt8)} {M : Option (List Int)} {i : Nat} {xs : List Int} {x : List UInt8} (h : RpI ws M i xs) (hx : ws[i]? = some x) (hn : i = 0 → x.head? ≠ some 76) : (iQ (ws.drop i)).map (xs ++ ·) = M := by
  rcases h with ⟨rfl, rfl, h⟩ | ⟨_, h⟩
  · have hl : isL ws = false := by
      have e := drop_cons' hx
      rw [List.drop_zero] at e
      rw [e]; unfold isL
      exact beq_eq_false_iff_ne.2 (hn rfl)
    unfold iW at h
    rw [hl, if_neg (by decide)] at h
    rw [map_nil_app]
    exact h
  · exact h
theorem sq_cons {x : List UInt8} {r : List (List UInt8)} (h : ¬ x.length < 2) (t : Nat) : sQ t (x :: r) = match rdM (x.drop 1) with
    | some n => if n = 0 ∨ x.head? ≠ some (ltC t) then none else (sQ (t + 1) r).map (n :: ·)
    | none => none := by
  conv => lhs; unfold sQ
  rw [if_neg h]
  rfl
theorem iq_cons {x : List UInt8} {r : List (List UInt8)} (h : ¬ x.length < 2) : iQ (x :: r) = match rdM (x.drop 1) with
    | some n => (iQ r).map (n :: ·)
    | none => none := by
  conv => lhs; unfold iQ
  rw [if_neg h]
  rfl
theorem sq_none {ws : List (List UInt8)} {M : Option (List Int)} {i t : Nat} {xs : List Int} {x : List UInt8} (h : (sQ t (ws.drop i)).map (xs ++ ·) = M) (hx : ws[i]? = some x) (hl : ¬ x.length < 2) (hr : rdM (x.drop 1) = none) : M = none := by
  rw [drop_cons' hx, sq_cons hl, hr] at h
  exact h.symm
theorem iq_none {ws : List (List UInt8)} {M : Option (List Int)} {i : Nat} {xs : List Int} {x : List UInt8} (h : (iQ (ws.drop i)).map (xs ++ ·) = M) (hx : ws[i]? = some x) (hl : ¬ x.length < 2) (hr : rdM (x.drop 1) = none) : M = none := by
  rw [drop_cons' hx, iq_cons hl, hr] at h
  exact h.symm
theorem sq_bad {ws : List (List UInt8)} {M : Option (List Int)} {i t : Nat} {xs : List Int} {x : List UInt8} {n : Int} (h : (sQ t (ws.drop i)).map (xs ++ ·) = M) (hx : ws[i]? = some x) (hl : ¬ x.length < 2) (hr : rdM (x.drop 1) = some n) (hb : n = 0 ∨ x.head? ≠ some (ltC t)) : M = none := by
  rw [drop_cons' hx, sq_cons hl, hr] at h
  simp only at h
  rw [if_pos hb] at h
  exact h.symm
theorem sq_step {ws : List (List UInt8)} {M : Option (List Int)} {i t : Nat} {xs : List Int} {x : List UInt8} {n : Int} (h : (sQ t (ws.drop i)).map (xs ++ ·) = M) (hx : ws[i]? = some x) (hl : ¬ x.length < 2) (hr : rdM (x.drop 1) = some n) (h0 : n ≠ 0) (hd : x.head? = some (ltC t)) : (sQ (t + 1) (ws.drop (i + 1))).map ((xs ++ [n]) ++ ·) = M := by
  rw [drop_cons' hx, sq_cons hl, hr] at h
  simp only at h
  rw [if_neg (fun e => e.elim h0 (fun e => e hd)), Option.map_map] at h
  rw [← h]
  congr 1
  funext y
  simp
theorem iq_step {ws : List (List UInt8)} {M : Option (List Int)} {i : Nat} {xs : List Int} {x : List UInt8} {n : Int} (h : (iQ (ws.drop i)).map (xs ++ ·) = M) (hx : ws[i]? = some x) (hl : ¬ x.length < 2) (hr : rdM (x.drop 1) = some n) : (iQ (ws.drop (i + 1))).map ((xs ++ [n]) ++ ·) = M := by
  rw [drop_cons' hx, iq_cons hl, hr] at h
  simp only at h
  rw [Option.map_map] at h
  rw [← h]
  congr 1
  funext y
  simp
theorem rps_end {ws : List (List UInt8)} {M : Option (List Int)} {xs : List Int} (h : RpS ws M ws.length xs) (hne : 1 ≤ ws.length) : M = some xs := by
  rcases h with ⟨h, _⟩ | ⟨_, h⟩
  · omega
  · rw [List.drop_length] at h
    rw [← h]
    show some (xs ++ []) = _
    rw [List.append_nil]
theorem rpi_end {ws : List (List UInt8)} {M : Option (List Int)} {xs : List Int} (h : RpI ws M ws.length xs) (hne : 1 ≤ ws.length) : M = some xs := by
  rcases h with ⟨h, _⟩ | ⟨_, h⟩
  · omega
  · rw [List.drop_length] at h
    rw [← h]
    show some (xs ++ []) = _
    rw [List.append_nil]
/-- A reading returned: the path, or none. -/
def RetRd (w : World) (R : Option (List Int)) (e : Ending) (w' : World) : Prop :=
  ∃ v, e = .returned (.tuple #[v, .bool R.isSome]) ∧ w'.ownsRow w.heap.size 2 1 v (R.getD []).length (ints (R.getD [])) ∧ Below w.heap.size w w'
theorem ret_none {w w' : World} {R : Option (List Int)} (h : R = none) (hb : Below w.heap.size w w') : RetRd w R (.returned (.tuple #[.slice none 0 0, .bool false])) w' := by
  subst h
  exact ⟨_, rfl, World.ownsRow_nil _ _ _ _, hb⟩
theorem ret_some {w w' : World} {R : Option (List Int)} {xs : List Int} {v : Value} (h : R = some xs) (ho : w'.ownsRow w.heap.size 2 1 v xs.length (ints xs)) (hb : Below w.heap.size w w') : RetRd w R (.returned (.tuple #[v, .bool true])) w' := by
  subst h
  exact ⟨_, rfl, ho, hb⟩
theorem rs_litP (w : World) (x : Int) : Rs (w.alloc (.cells #[.int .i64 x] 2)) 1 (.slice (some ⟨w.heap.size, 0, none⟩) 1 1) 1 (ints [x]) :=
  Rs.of_own (World.ownsRow_lit (base := 0) w #[.int .i64 x] 1 (Nat.zero_le _) (by simp [maxLen]) (by simp))
theorem own_slP {w : World} {base size n : Nat} {e : TypeId} {v : Value} {xs : List Value} (h : w.ownsRow base e size v n xs) : ∃ a c, v = .slice a n c := by
  rcases h.2 with ⟨rfl, rfl⟩ | ⟨g, cap, cur, rfl, _⟩
  · exact ⟨none, 0, rfl⟩
  · exact ⟨_, _, rfl⟩
theorem at_ne {w : World} {v v' : Value} {g : Nat} (hg : g < w.heap.size) (hne : some g ≠ v.ownBlock) (hat : v'.ownBlock = v.ownBlock ∨ v'.ownBlock = some w.heap.size) : some g ≠ v'.ownBlock := by
  rcases hat with e | e <;> rw [e]
  · exact hne
  · intro h; injection h with h; omega
end Go.Proofs.YtlmmpeeacjbobaaDoor
