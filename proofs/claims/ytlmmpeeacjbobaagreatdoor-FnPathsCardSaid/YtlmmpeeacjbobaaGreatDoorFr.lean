/-
  Slices of fractions: the words for them; the laws' own functions on them: equality, marks, and marks that are held.
-/
import Derived.Test.YtlmmpeeacjbobaaGreatDoorRow
import Derived.Test.YtlmmpeeacjbobaaGreatDoorFrac
namespace Go.Proofs.YtlmmpeeacjbobaaGreatDoor
open Go.RowKit

/-- The cells of a list of pairs. -/
def prs (xs : List (Int × Int)) : List Value := xs.flatMap fun p => [.int .i64 p.1, .int .i64 p.2]
theorem prs_len (xs : List (Int × Int)) : (prs xs).length = xs.length * 2 := by
  induction xs with
  | nil => rfl
  | cons x xs ih => simp only [prs, List.flatMap_cons, List.length_append, List.length_cons, List.length_nil] at ih ⊢; omega
theorem prs_get {xs : List (Int × Int)} {k : Nat} {z : Int × Int} (h : xs[k]? = some z) : (prs xs)[k * 2]? = some (.int .i64 z.1) ∧ (prs xs)[k * 2 + 1]? = some (.int .i64 z.2) := by
  induction xs generalizing k with
  | nil => simp at h
  | cons x xs ih =>
    cases k with
    | zero => simp at h; subst h; simp [prs]
    | succ k =>
      have h2 := ih (k := k) (by simpa using h)
      have e1 : (k + 1) * 2 = k * 2 + 2 := by omega
      rw [e1]
      simp only [prs, List.flatMap_cons] at h2 ⊢
      exact h2
theorem prs_snoc (xs : List (Int × Int)) (p : Int × Int) : prs (xs ++ [p]) = prs xs ++ [.int .i64 p.1, .int .i64 p.2] := by simp [prs]
theorem Tryz.infoF : (Tryz.prog.info? 39).map (fun i => (i.zero, i.size, i.bytes)) = some (some (.agg #[.int .i64 0, .int .i64 0]), 2, 16) := by kernel_rfl

theorem own_lit2 (w : World) (o o' : Obj) (x y : Int) : (((w.alloc o).alloc o').alloc (.cells #[.int .i64 x, .int .i64 y] 39)).ownsRow w.heap.size 39 2 (.slice (some ⟨w.heap.size + 1 + 1, 0, none⟩) 1 1) 1 (prs [(x, y)]) := by
  have h := World.ownsRow_lit (base := w.heap.size) (size := 2) (e := 39) ((w.alloc o).alloc o') #[.int .i64 x, .int .i64 y] 1 (by rw [World.size_alloc, World.size_alloc]; omega) (by simp [maxLen]) rfl
  rw [World.size_alloc, World.size_alloc] at h
  exact h
/-! ### '==' on fractions -/
theorem Tryz.fieldsF : Tryz.prog.underlying 39 = some (.struct (Tryz.prog.fieldsOf 39)) := by kernel_rfl
theorem Tryz.listF : (Tryz.prog.fieldsOf 39).toList.map (fun f => (f.name, f.type, f.offset)) = [("Num", 2, 0), ("Den", 2, 1)] := by kernel_rfl
theorem Tryz.heldF : Tryz.prog.stoodInHeld 39 = false := by kernel_rfl
theorem Tryz.guardF : Tryz.prog.eqGuardType Tryz.prog.depth 39 = false := by kernel_rfl
theorem run_guardF (op : BinOp) (x y : Operand) (xs ys : Array Value) (w : World) : (eqGuard op 39 x y (.agg xs) (.agg ys)).run Tryz.prog w = .ok () w := run_eqGuard_agg w op _ x y xs ys Tryz.guardF
theorem run_eqFields2 {P : Program} {t : TypeId} {k : IntKind} (ht : P.underlying t = some (.int k)) (hk : P.plainKey t = true) {f1 f2 : Field} (n1 : f1.name ≠ "_") (n2 : f2.name ≠ "_") (t1 : f1.type = t) (t2 : f2.type = t) (o1 : f1.offset = 0) (o2 : f2.offset = 1) (m : Nat) (a b c d : Int) (w : World) :
    (Op.eqFields (m + 1) #[.int k a, .int k b] #[.int k c, .int k d] [f1, f2]).run P w = .ok (a == c && b == d) w := by
  have p0 : ∀ x y : Int, (part t #[.int k x, .int k y] 0).run P w = .ok (.int k x) w := fun x y => run_part_plain (P := P) (w := w) hk rfl
  have p1 : ∀ x y : Int, (part t #[.int k x, .int k y] 1).run P w = .ok (.int k y) w := fun x y => run_part_plain (P := P) (w := w) hk rfl
  have q := fun x y : Int => run_equalIn_int (P := P) w m t k k x y ht
  simp only [Op.eqFields, n1, n2, t1, t2, o1, o2, ne_eq, not_false_eq_true, if_true, Sem.run_bind, p0, p1, q, Result.andThen_ok, Sem.run_ite, Sem.run_pure]
  cases a == c <;> cases b == d <;> rfl
theorem fields2 {P : Program} {s t : TypeId} {x y : String} (hl : (P.fieldsOf s).toList.map (fun f => (f.name, f.type, f.offset)) = [(x, t, 0), (y, t, 1)]) : ∃ f1 f2, (P.fieldsOf s).toList = [f1, f2] ∧ f1.name = x ∧ f2.name = y ∧ f1.type = t ∧ f2.type = t ∧ f1.offset = 0 ∧ f2.offset = 1 := by
  generalize (P.fieldsOf s).toList = l at *
  have h3 : l.length = 2 := by have := congrArg List.length hl; simpa using this
  obtain ⟨f1, r1, rfl⟩ := List.exists_cons_of_length_pos (show 0 < l.length by omega)
  obtain ⟨f2, r2, rfl⟩ := List.exists_cons_of_length_pos (show 0 < r1.length by simp at h3; omega)
  obtain rfl : r2 = [] := List.eq_nil_of_length_eq_zero (by simpa using h3)
  simp only [List.map_cons, List.map_nil, List.cons.injEq, Prod.mk.injEq, and_true] at hl
  exact ⟨f1, f2, rfl, hl.1.1, hl.2.1, hl.1.2.1, hl.2.2.1, hl.1.2.2, hl.2.2.2⟩
theorem Tryz.plainI : Tryz.prog.plainKey 2 = true := by kernel_rfl
theorem run_eqF (a b c d : Int) (r : Bool) (hr : (a == c && b == d) = r) (w : World) : (binOp .eql 39 (.agg #[.int .i64 a, .int .i64 b]) (.agg #[.int .i64 c, .int .i64 d])).run Tryz.prog w = .ok (.bool r) w := by
  rw [run_eql_struct, run_equalIn_struct (P := Tryz.prog) w 9999 39 _ _ Tryz.fieldsF Tryz.heldF]
  obtain ⟨f1, f2, hl, n1, n2, t1, t2, o1, o2⟩ := fields2 Tryz.listF
  subst hr
  rw [hl, run_eqFields2 Tryz.underlying2 Tryz.plainI (by rw [n1]; decide) (by rw [n2]; decide) t1 t2 o1 o2 9998]
  rfl
def EqFR (w : World) (n : Nat) (ys zs : List (Int × Int)) (k : Nat) (i : Value) (wr : World) : Prop :=
  ∃ j : Nat, j ≤ n ∧ n ≤ j + k ∧ i = .int .i64 j ∧ (∀ t, t < j → ys[t]? = zs[t]?) ∧ Below w.heap.size w wr
def HeldR2 (w : World) (n : Nat) (k0 : Int) (k : Nat) (x i : Value) (wr : World) : Prop :=
  ∃ j : Nat, j ≤ n ∧ n ≤ j + k ∧ i = .int .i64 j ∧ x = .int .i64 (k0 + (j : Int) * 2) ∧ Below w.heap.size w wr
end Go.Proofs.YtlmmpeeacjbobaaGreatDoor
