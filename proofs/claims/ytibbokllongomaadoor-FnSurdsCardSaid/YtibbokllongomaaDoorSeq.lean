/-
  Two surds compared as structs; the size of a decimal.
-/
import Derived.Test.YtibbokllongomaaDoorText
import Derived.DeepKeys4
namespace Go.Proofs.YtibbokllongomaaDoor
open Go.RowKit

theorem Tryd.fieldsS : Tryd.prog.underlying 28 = some (.struct (Tryd.prog.fieldsOf 28)) := by kernel_rfl
theorem Tryd.listS : (Tryd.prog.fieldsOf 28).toList.map (fun f => (f.name, f.type, f.offset)) = [("P", 2, 0), ("D", 2, 1), ("Q", 2, 2)] := by kernel_rfl
theorem Tryd.heldS : Tryd.prog.stoodInHeld 28 = false := by kernel_rfl
theorem Tryd.guardS : Tryd.prog.eqGuardType Tryd.prog.depth 28 = false := by kernel_rfl
theorem Tryd.plainI : Tryd.prog.plainKey 2 = true := by kernel_rfl
theorem fields3 {P : Program} {s t : TypeId} {x y z : String} (hl : (P.fieldsOf s).toList.map (fun f => (f.name, f.type, f.offset)) = [(x, t, 0), (y, t, 1), (z, t, 2)]) : ∃ f1 f2 f3, (P.fieldsOf s).toList = [f1, f2, f3] ∧ (f1.name = x ∧ f2.name = y ∧ f3.name = z) ∧ (f1.type = t ∧ f2.type = t ∧ f3.type = t) ∧ f1.offset = 0 ∧ f2.offset = 1 ∧ f3.offset = 2 := by
  generalize (P.fieldsOf s).toList = l at *
  have h3 : l.length = 3 := by have := congrArg List.length hl; simpa using this
  obtain ⟨f1, r1, rfl⟩ := List.exists_cons_of_length_pos (show 0 < l.length by omega)
  obtain ⟨f2, r2, rfl⟩ := List.exists_cons_of_length_pos (show 0 < r1.length by simp at h3; omega)
  obtain ⟨f3, r3, rfl⟩ := List.exists_cons_of_length_pos (show 0 < r2.length by simp at h3; omega)
  obtain rfl : r3 = [] := List.eq_nil_of_length_eq_zero (by simpa using h3)
  simp only [List.map_cons, List.map_nil, List.cons.injEq, Prod.mk.injEq, and_true] at hl
  obtain ⟨⟨a1, a2, a3⟩, ⟨b1, b2, b3⟩, c1, c2, c3⟩ := hl
  exact ⟨f1, f2, f3, rfl, ⟨a1, b1, c1⟩, ⟨a2, b2, c2⟩, a3, b3, c3⟩
theorem run_guardS (op : BinOp) (x y : Operand) (xs ys : Array Value) (w : World) : (eqGuard op 28 x y (.agg xs) (.agg ys)).run Tryd.prog w = .ok () w := run_eqGuard_agg w op _ x y xs ys Tryd.guardS
theorem run_eqFields3 {P : Program} {t : TypeId} {k : IntKind} (ht : P.underlying t = some (.int k)) (hk : P.plainKey t = true) {f1 f2 f3 : Field} (n1 : f1.name ≠ "_") (n2 : f2.name ≠ "_") (n3 : f3.name ≠ "_") (t1 : f1.type = t) (t2 : f2.type = t) (t3 : f3.type = t) (o1 : f1.offset = 0) (o2 : f2.offset = 1) (o3 : f3.offset = 2) (m : Nat) (a b c d e f : Int) (w : World) :
    (Op.eqFields (m + 1) #[.int k a, .int k b, .int k c] #[.int k d, .int k e, .int k f] [f1, f2, f3]).run P w = .ok (a == d && (b == e && c == f)) w := by
  have p0 : ∀ x y z : Int, (part t #[.int k x, .int k y, .int k z] 0).run P w = .ok (.int k x) w := fun x y z => run_part_plain (P := P) (w := w) hk rfl
  have p1 : ∀ x y z : Int, (part t #[.int k x, .int k y, .int k z] 1).run P w = .ok (.int k y) w := fun x y z => run_part_plain (P := P) (w := w) hk rfl
  have p2 : ∀ x y z : Int, (part t #[.int k x, .int k y, .int k z] 2).run P w = .ok (.int k z) w := fun x y z => run_part_plain (P := P) (w := w) hk rfl
  have q := fun x y : Int => run_equalIn_int (P := P) w m t k k x y ht
  simp only [Op.eqFields, n1, n2, n3, t1, t2, t3, o1, o2, o3, ne_eq, not_false_eq_true, if_true, Sem.run_bind, p0, p1, p2, q, Result.andThen_ok, Sem.run_ite, Sem.run_pure]
  cases a == d <;> cases b == e <;> cases c == f <;> rfl
theorem run_neS (a b c d e f : Int) (r : Bool) (hr : (!(a == d && (b == e && c == f))) = r) (w : World) : (binOp .neq 28 (.agg #[.int .i64 a, .int .i64 b, .int .i64 c]) (.agg #[.int .i64 d, .int .i64 e, .int .i64 f])).run Tryd.prog w = .ok (.bool r) w := by
  rw [run_neq_struct, run_equalIn_struct (P := Tryd.prog) w 9999 28 _ _ Tryd.fieldsS Tryd.heldS]
  obtain ⟨f1, f2, f3, hl, ⟨n1, n2, n3⟩, ⟨t1, t2, t3⟩, o1, o2, o3⟩ := fields3 Tryd.listS
  subst hr
  rw [hl, run_eqFields3 Tryd.underlying2 Tryd.plainI (by rw [n1]; decide) (by rw [n2]; decide) (by rw [n3]; decide) t1 t2 t3 o1 o2 o3 9998]
  rfl
theorem decB_sz (n : Int) (h0 : -9223372036854775808 ≤ n) (h1 : n ≤ 9223372036854775807) : (decB n).size ≤ 21 := by
  show (Lib.itoa n).toArray.size ≤ 21
  rw [List.size_toArray]
  exact Lib.itoa_length_le n h0 h1
end Go.Proofs.YtibbokllongomaaDoor
