/-
  Which one of all solutions a pair is: both packages' loops.
-/
import Derived.Test.YtibbokllongomaaDoorUnq
import Derived.Test.YtibbokllongomaaDoorPairs2
import Derived.Laws.StructEq
import Derived.ChangeKeysEq
namespace Go.Proofs.YtibbokllongomaaDoor
open Go.RowKit

theorem Tryd.fieldsP : Tryd.prog.underlying 40 = some (.struct (Tryd.prog.fieldsOf 40)) := by kernel_rfl
theorem Tryd.listP : (Tryd.prog.fieldsOf 40).toList.map (fun f => (f.name, f.type, f.offset)) = [("X", 2, 0), ("Y", 2, 1)] := by kernel_rfl
theorem Tryd.heldP : Tryd.prog.stoodInHeld 40 = false := by kernel_rfl
theorem Tryd.guardP : Tryd.prog.eqGuardType Tryd.prog.depth 40 = false := by kernel_rfl
theorem Tryd.plainI2 : Tryd.prog.plainKey 2 = true := by kernel_rfl
theorem fields2 {P : Program} {s t : TypeId} {x y : String} (hl : (P.fieldsOf s).toList.map (fun f => (f.name, f.type, f.offset)) = [(x, t, 0), (y, t, 1)]) : ∃ f1 f2, (P.fieldsOf s).toList = [f1, f2] ∧ (f1.name = x ∧ f2.name = y) ∧ (f1.type = t ∧ f2.type = t) ∧ f1.offset = 0 ∧ f2.offset = 1 := by
  generalize (P.fieldsOf s).toList = l at *
  have h3 : l.length = 2 := by have := congrArg List.length hl; simpa using this
  obtain ⟨f1, r1, rfl⟩ := List.exists_cons_of_length_pos (show 0 < l.length by omega)
  obtain ⟨f2, r2, rfl⟩ := List.exists_cons_of_length_pos (show 0 < r1.length by simp at h3; omega)
  obtain rfl : r2 = [] := List.eq_nil_of_length_eq_zero (by simpa using h3)
  simp only [List.map_cons, List.map_nil, List.cons.injEq, Prod.mk.injEq, and_true] at hl
  obtain ⟨⟨a1, a2, a3⟩, b1, b2, b3⟩ := hl
  exact ⟨f1, f2, rfl, ⟨a1, b1⟩, ⟨a2, b2⟩, a3, b3⟩
theorem run_guardP (op : BinOp) (x y : Operand) (xs ys : Array Value) (w : World) : (eqGuard op 40 x y (.agg xs) (.agg ys)).run Tryd.prog w = .ok () w := run_eqGuard_agg w op _ x y xs ys Tryd.guardP
theorem run_eqFields2 {P : Program} {t : TypeId} {k : IntKind} (ht : P.underlying t = some (.int k)) (hk : P.plainKey t = true) {f1 f2 : Field} (n1 : f1.name ≠ "_") (n2 : f2.name ≠ "_") (t1 : f1.type = t) (t2 : f2.type = t) (o1 : f1.offset = 0) (o2 : f2.offset = 1) (m : Nat) (a b d e : Int) (w : World) :
    (Op.eqFields (m + 1) #[.int k a, .int k b] #[.int k d, .int k e] [f1, f2]).run P w = .ok (a == d && b == e) w := by
  have p0 : ∀ x y : Int, (part t #[.int k x, .int k y] 0).run P w = .ok (.int k x) w := fun x y => run_part_plain (P := P) (w := w) hk rfl
  have p1 : ∀ x y : Int, (part t #[.int k x, .int k y] 1).run P w = .ok (.int k y) w := fun x y => run_part_plain (P := P) (w := w) hk rfl
  have q := fun x y : Int => run_equalIn_int (P := P) w m t k k x y ht
  simp only [Op.eqFields, n1, n2, t1, t2, o1, o2, ne_eq, not_false_eq_true, if_true, Sem.run_bind, p0, p1, q, Result.andThen_ok, Sem.run_ite, Sem.run_pure]
  cases a == d <;> cases b == e <;> rfl
theorem run_eqP (a b d e : Int) (r : Bool) (hr : (a == d && b == e) = r) (w : World) : (binOp .eql 40 (.agg #[.int .i64 a, .int .i64 b]) (.agg #[.int .i64 d, .int .i64 e])).run Tryd.prog w = .ok (.bool r) w := by
  rw [run_eql_struct, run_equalIn_struct (P := Tryd.prog) w 9999 40 _ _ Tryd.fieldsP Tryd.heldP]
  obtain ⟨f1, f2, hl, ⟨n1, n2⟩, ⟨t1, t2⟩, o1, o2⟩ := fields2 Tryd.listP
  subst hr
  rw [hl, run_eqFields2 Tryd.underlying2 Tryd.plainI2 (by rw [n1]; decide) (by rw [n2]; decide) t1 t2 o1 o2 9998]
  rfl
theorem run_neP (a b d e : Int) (r : Bool) (hr : (!(a == d && b == e)) = r) (w : World) : (binOp .neq 40 (.agg #[.int .i64 a, .int .i64 b]) (.agg #[.int .i64 d, .int .i64 e])).run Tryd.prog w = .ok (.bool r) w := by
  rw [run_neq_struct, run_equalIn_struct (P := Tryd.prog) w 9999 40 _ _ Tryd.fieldsP Tryd.heldP]
  obtain ⟨f1, f2, hl, ⟨n1, n2⟩, ⟨t1, t2⟩, o1, o2⟩ := fields2 Tryd.listP
  subst hr
  rw [hl, run_eqFields2 Tryd.underlying2 Tryd.plainI2 (by rw [n1]; decide) (by rw [n2]; decide) t1 t2 o1 o2 9998]
  rfl
theorem eqP_false {a b d e : Int} (h : b ≠ e) : (a == d && b == e) = false := by
  rw [Bool.and_eq_false_iff]; right; simpa using h
theorem eqP_true (a b : Int) : (a == a && b == b) = true := by simp
/-- The solution's number among all, and all ahead of it are plain. -/
structure SolN (d x y : Int) (n : Nat) : Prop where
  pc : pcM d x y = 0
  hit : (ppS d (lsX d (perN d)) (lsY d (perN d)) (lsB d (perN d)) n).1 = (x, y)
  ok : ∀ t, t ≤ n → (ppS d (lsX d (perN d)) (lsY d (perN d)) (lsB d (perN d)) t).2 = true
theorem sol_of {d x y : Int} (h : pcM d x y = 0) (hN : nmV d x y = 1) (hx : 1 ≤ x) (hy : 1 ≤ y) : ∃ n, SolN d x y n := by
  obtain ⟨_, h1, h2⟩ := pc_zero h
  obtain ⟨n, _, a, b⟩ := pp_hit h1 hx hy hN h2
  exact ⟨n, h, a, b⟩
theorem SolN.facts {d x y : Int} {n : Nat} (S : SolN d x y n) : (2 ≤ d ∧ d ≤ 10000) ∧ pdM d = 0 ∧ okP d x y = true ∧ nmV d x y = 1 ∧ 1 ≤ x ∧ 1 ≤ y ∧ (n : Int) + 1 ≤ y := by
  obtain ⟨h0, h1, h2⟩ := pc_zero S.pc
  obtain ⟨s1, s2, s3⟩ := pp_sol h1 (lsB d (perN d)) n
  have m := pp_mono h1 (lsB d (perN d)) 0 n
  rw [Nat.zero_add] at m
  obtain ⟨_, _, s4⟩ := pp_sol h1 (lsB d (perN d)) 0
  rw [S.hit] at s1 s2 s3 m
  exact ⟨h0, h1, h2, s1, s2, s3, by simp only at m; omega⟩
/-- What a round of the loops uses of the solutions: the t-th one, the next one, whether both are plain. -/
theorem pp_round {d : Int} (h : pdM d = 0) (b : Bool) (t : Nat) : ∃ x y x' y' : Int, ∃ o : Bool, (ppS d (lsX d (perN d)) (lsY d (perN d)) b t).1 = (x, y) ∧ (ppS d (lsX d (perN d)) (lsY d (perN d)) b (t + 1)).1 = (x', y') ∧
    x' = mxP d x y (lsX d (perN d)) (lsY d (perN d)) ∧ y' = myP x y (lsX d (perN d)) (lsY d (perN d)) ∧ (ppS d (lsX d (perN d)) (lsY d (perN d)) b (t + 1)).2 = ((ppS d (lsX d (perN d)) (lsY d (perN d)) b t).2 && o) ∧ o = (fitP d y (lsY d (perN d)) && okP d x' y') ∧ y < y' ∧ 1 ≤ x ∧ 1 ≤ y ∧ nmV d x y = 1 := by
  obtain ⟨s1, s2, s3⟩ := pp_sol h b t
  exact ⟨_, _, _, _, _, rfl, rfl, rfl, rfl, rfl, rfl, pp_up h b t, s2, s3, s1⟩
def PiR (w : World) (d X Y : Int) (b : Bool) (px py : Int) (n gl : Nat) (k : Nat) (vb vk vp : Value) (wr : World) : Prop :=
  ∃ (t g : Nat) (x y x0 y0 : Int), (t ≤ n ∧ n ≤ t + k) ∧ vb = .bool (ppS d X Y b t).2 ∧ vk = .int .i64 ((t : Int) + 1) ∧ vp = .pointer (some ⟨g, 0, none⟩) ∧ ((ppS d X Y b t).2 = true → (ppS d X Y b t).1 = (x, y)) ∧ (b = true → x0 = X ∧ y0 = Y) ∧
    Blk wr g 40 #[.int .i64 x, .int .i64 y] ∧ Blk wr gl 40 #[.int .i64 x0, .int .i64 y0] ∧ Blk wr w.heap.size 40 #[.int .i64 px, .int .i64 py] ∧ Below w.heap.size w wr ∧ (w.heap.size < gl ∧ gl ≠ g ∧ w.heap.size < g)
def PiSR (w : World) (d X Y : Int) (px py : Int) (n gl g : Nat) (k : Nat) (vk : Value) (wr : World) : Prop :=
  ∃ (t : Nat) (x y : Int), (t ≤ n ∧ n ≤ t + k) ∧ vk = .int .i64 ((t : Int) + 1) ∧ (ppS d X Y true t).1 = (x, y) ∧
    Blk wr g 40 #[.int .i64 x, .int .i64 y] ∧ Blk wr gl 40 #[.int .i64 X, .int .i64 Y] ∧ Blk wr w.heap.size 40 #[.int .i64 px, .int .i64 py] ∧ Below w.heap.size w wr
end Go.Proofs.YtibbokllongomaaDoor
