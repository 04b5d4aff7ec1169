/-
  Rows of Pell pairs, and the list of the least solutions as plain functions.
-/
import Derived.Test.YtibbokllongomaaDoorLeast
import Derived.Test.YtibbokllongomaaDoorRow
import Derived.Deep.AppendLies
namespace Go.Proofs.YtibbokllongomaaDoor
open Go.RowKit

def prs (xs : List (Int × Int)) : List Value := xs.flatMap fun p => [.int .i64 p.1, .int .i64 p.2]
theorem prs_len (xs : List (Int × Int)) : (prs xs).length = xs.length * 2 := by
  induction xs with
  | nil => rfl
  | cons x xs ih => simp only [prs, List.flatMap_cons, List.length_append, List.length_cons, List.length_nil] at ih ⊢; omega
theorem prs_get {xs : List (Int × Int)} {k : Nat} {z : Int × Int} (h : xs[k]? = some z) : (prs xs)[k * 2]? = some (.int .i64 z.1) ∧ (prs xs)[k * 2 + 1]? = some (.int .i64 z.2) := by
  induction xs generalizing k with
  | nil => simp at h
  | cons x xs ih =>
    cases k with
    | zero => simp at h; subst h; simp [prs]
    | succ k =>
      have h2 := ih (k := k) (by simpa using h)
      have e1 : (k + 1) * 2 = k * 2 + 2 := by omega
      rw [e1]
      simp only [prs, List.flatMap_cons] at h2 ⊢
      exact h2
theorem prs_snoc (xs : List (Int × Int)) (p : Int × Int) : prs (xs ++ [p]) = prs xs ++ [.int .i64 p.1, .int .i64 p.2] := by simp [prs]
theorem Tryd.infoP : (Tryd.prog.info? 40).map (fun i => (i.zero, i.size, i.bytes)) = some (some (.agg #[.int .i64 0, .int .i64 0]), 2, 16) := by kernel_rfl
def HeldR2 (w : World) (n : Nat) (k0 : Int) (k : Nat) (x i : Value) (wr : World) : Prop :=
  ∃ j : Nat, j ≤ n ∧ n ≤ j + k ∧ i = .int .i64 j ∧ x = .int .i64 (k0 + (j : Int) * 2) ∧ Below w.heap.size w wr
def EqpR (w : World) (n : Nat) (k : Nat) (i : Value) (wr : World) : Prop :=
  ∃ j : Nat, j ≤ n ∧ n ≤ j + k ∧ i = .int .i64 j ∧ Below w.heap.size w wr
/-- The k-th solution, and whether all up to it are plain. -/
def ppS (d X Y : Int) (b : Bool) : Nat → (Int × Int) × Bool
  | 0 => ((X, Y), b)
  | k + 1 => ((mxP d (ppS d X Y b k).1.1 (ppS d X Y b k).1.2 X Y, myP (ppS d X Y b k).1.1 (ppS d X Y b k).1.2 X Y), (ppS d X Y b k).2 && (fitP d (ppS d X Y b k).1.2 Y && okP d (mxP d (ppS d X Y b k).1.1 (ppS d X Y b k).1.2 X Y) (myP (ppS d X Y b k).1.1 (ppS d X Y b k).1.2 X Y)))
theorem ls_ok {d : Int} {l : Nat} (h : lsB d l = true) : okP d (lsX d l) (lsY d l) = true := by
  unfold lsB at h
  unfold lsX lsY
  rw [Bool.and_eq_true] at h
  by_cases ho : l % 2 = 1
  · rw [if_pos ho] at h ⊢
    rw [if_pos ho]
    exact (Bool.and_eq_true_iff.1 h.2).2
  · rw [if_neg ho, if_neg ho]
    exact h.1
theorem pp_ok {d X Y : Int} {b : Bool} (h0 : b = true → okP d X Y = true) : ∀ k, (ppS d X Y b k).2 = true → okP d (ppS d X Y b k).1.1 (ppS d X Y b k).1.2 = true
  | 0, h => h0 h
  | k + 1, h => by
    have h : ((ppS d X Y b k).2 && (fitP d (ppS d X Y b k).1.2 Y && okP d (mxP d (ppS d X Y b k).1.1 (ppS d X Y b k).1.2 X Y) (myP (ppS d X Y b k).1.1 (ppS d X Y b k).1.2 X Y))) = true := h
    rw [Bool.and_eq_true, Bool.and_eq_true] at h
    exact h.2.2
theorem pp_stop {d X Y : Int} {b : Bool} {k : Nat} (h : (ppS d X Y b k).2 = false) : ∀ m, k ≤ m → (ppS d X Y b m).2 = false
  | 0, hm => by obtain rfl : k = 0 := by omega
                exact h
  | m + 1, hm => by
    rcases Nat.lt_or_ge m k with g | g
    · obtain rfl : k = m + 1 := by omega
      exact h
    · show ((ppS d X Y b m).2 && _) = false
      rw [pp_stop h m g, Bool.false_and]
def ppL (d X Y : Int) (b : Bool) (n : Nat) : List (Int × Int) := (List.range n).map fun k => (ppS d X Y b k).1
theorem ppL_succ (d X Y : Int) (b : Bool) (n : Nat) : ppL d X Y b (n + 1) = ppL d X Y b n ++ [(ppS d X Y b n).1] := by simp [ppL, List.range_succ]
theorem ppL_len (d X Y : Int) (b : Bool) (n : Nat) : (ppL d X Y b n).length = n := by simp [ppL]
/-- All of the first n are plain. -/
def ppB (d X Y : Int) (b : Bool) : Nat → Bool
  | 0 => true
  | n + 1 => (ppS d X Y b n).2
def ppM (d n : Int) : List (Int × Int) × Int :=
  if pdM d = 0 then (if inB n 0 50 then (if ppB d (lsX d (perN d)) (lsY d (perN d)) (lsB d (perN d)) n.toNat then (ppL d (lsX d (perN d)) (lsY d (perN d)) (lsB d (perN d)) n.toNat, 0) else ([], 5)) else ([], 2)) else ([], pdM d)
def PpP (w : World) (M : List (Int × Int) × Int) (e : Ending) (w' : World) : Prop :=
  ∃ v, e = .returned (.tuple #[v, .int .i64 M.2]) ∧ w'.ownsRow w.heap.size 40 2 v M.1.length (prs M.1) ∧ Below w.heap.size w w'
theorem pp_small (d n : Int) : (ppM d n).1.length ≤ 400 := by
  unfold ppM
  split
  · split
    · rename_i h
      obtain ⟨a, b⟩ := inB_iff.1 h
      split
      · simp only [ppL_len]; omega
      · simp
    · simp
  · simp
end Go.Proofs.YtibbokllongomaaDoor
