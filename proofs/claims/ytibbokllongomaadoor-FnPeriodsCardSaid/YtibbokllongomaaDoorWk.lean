/-
  The walk along the surds of a surd: both packages' ways.
-/
import Derived.Test.YtibbokllongomaaDoorPer
import Derived.Test.YtibbokllongomaaDoorRow
import Derived.Maps.OwnSet
import Derived.Maps.OwnOps
import Derived.Maps.AppendAt
import Derived.Deep.AppendLies
import Derived.DeepKeys4
namespace Go.Proofs.YtibbokllongomaaDoor
open Go.RowKit Go.Maps

/-- Surds as the cells of a row. -/
def srd (d : Int) (xs : List (Int × Int)) : List Value := xs.flatMap fun x => [.int .i64 x.1, .int .i64 d, .int .i64 x.2]
theorem srd_len (d : Int) (xs : List (Int × Int)) : (srd d xs).length = xs.length * 3 := by
  induction xs with
  | nil => rfl
  | cons x xs ih => simp [srd] at ih ⊢; omega
theorem srd_snoc (d : Int) (xs : List (Int × Int)) (x : Int × Int) : srd d (xs ++ [x]) = srd d xs ++ [.int .i64 x.1, .int .i64 d, .int .i64 x.2] := by simp [srd]
theorem srd_get {d : Int} {xs : List (Int × Int)} {k : Nat} {z : Int × Int} (h : xs[k]? = some z) : (srd d xs)[k * 3]? = some (.int .i64 z.1) ∧ (srd d xs)[k * 3 + 1]? = some (.int .i64 d) ∧ (srd d xs)[k * 3 + 2]? = some (.int .i64 z.2) := by
  induction xs generalizing k with
  | nil => simp at h
  | cons x xs ih =>
    have e : srd d (x :: xs) = .int .i64 x.1 :: .int .i64 d :: .int .i64 x.2 :: srd d xs := rfl
    rw [e]
    cases k with
    | zero => simp at h; subst h; simp
    | succ k =>
      rw [show (k + 1) * 3 = k * 3 + 1 + 1 + 1 by omega]
      simpa using ih (by simpa using h)
theorem Tryd.infoS : (Tryd.prog.info? 28).map (fun i => (i.zero, i.size, i.bytes)) = some (some (.agg #[.int .i64 0, .int .i64 0, .int .i64 0]), 3, 24) := by kernel_rfl
theorem Tryd.fieldsS : Tryd.prog.underlying 28 = some (.struct (Tryd.prog.fieldsOf 28)) := by kernel_rfl
theorem Tryd.listS : (Tryd.prog.fieldsOf 28).toList.map (fun f => (f.name, f.type, f.offset)) = [("P", 2, 0), ("D", 2, 1), ("Q", 2, 2)] := by kernel_rfl
theorem Tryd.laidS : laidOutB Tryd.prog = true := by kernel_rfl
theorem Tryd.rowS : (28 : TypeId) < Tryd.prog.types.size := of_decide_eq_true (by kernel_rfl)
theorem Tryd.keyS : Tryd.prog.keyType 28 = true := by kernel_rfl
theorem Tryd.cellsS : Tryd.prog.cellsOf 28 = 3 := by kernel_rfl
theorem Tryd.cellsI : Tryd.prog.cellsOf 2 = 1 := by kernel_rfl
theorem pos_succ {n m : Nat} (h : n < m) : ∃ k, m = k + 1 := ⟨m - 1, by omega⟩
theorem lawS : Keyed Tryd.prog 28 := Keyed.of_law (deep_law_laid Tryd.laidS (m := 2) (by omega) Tryd.rowS (by kernel_rfl) (by kernel_rfl))
theorem fields3 {P : Program} {s t : TypeId} {x y z : String} (hl : (P.fieldsOf s).toList.map (fun f => (f.name, f.type, f.offset)) = [(x, t, 0), (y, t, 1), (z, t, 2)]) : ∃ f1 f2 f3, (P.fieldsOf s).toList = [f1, f2, f3] ∧ (f1.name = x ∧ f2.name = y ∧ f3.name = z) ∧ (f1.type = t ∧ f2.type = t ∧ f3.type = t) ∧ f1.offset = 0 ∧ f2.offset = 1 ∧ f3.offset = 2 := by
  generalize (P.fieldsOf s).toList = l at *
  have h3 : l.length = 3 := by have := congrArg List.length hl; simpa using this
  obtain ⟨f1, r1, rfl⟩ := List.exists_cons_of_length_pos (show 0 < l.length by omega)
  obtain ⟨f2, r2, rfl⟩ := List.exists_cons_of_length_pos (show 0 < r1.length by simp at h3; omega)
  obtain ⟨f3, r3, rfl⟩ := List.exists_cons_of_length_pos (show 0 < r2.length by simp at h3; omega)
  obtain rfl : r3 = [] := List.eq_nil_of_length_eq_zero (by simpa using h3)
  simp only [List.map_cons, List.map_nil, List.cons.injEq, Prod.mk.injEq, and_true] at hl
  obtain ⟨⟨a1, a2, a3⟩, ⟨b1, b2, b3⟩, c1, c2, c3⟩ := hl
  exact ⟨f1, f2, f3, rfl, ⟨a1, b1, c1⟩, ⟨a2, b2, c2⟩, a3, b3, c3⟩
def klS (p d q : Int) : Lit := .string (keyBytes [.int .i64 p, .int .i64 d, .int .i64 q])
theorem key_surd (p d q : Int) (h1 : (Lit.int .i64 p).wf = true) (h2 : (Lit.int .i64 d).wf = true) (h3 : (Lit.int .i64 q).wf = true) : keyOf Tryd.prog 28 (.agg #[.int .i64 p, .int .i64 d, .int .i64 q]) = some (klS p d q) := by
  obtain ⟨f1, f2, f3, hl, ⟨n1, n2, n3⟩, ⟨t1, t2, t3⟩, o1, o2, o3⟩ := fields3 Tryd.listS
  have hall : (Tryd.prog.fieldsOf 28).all (fun x => x.name != "_") = true := by
    rw [← Array.all_toList, hl]
    simp only [List.all_cons, List.all_nil, n1, n2, n3]
    decide
  have hf : (Value.agg #[.int .i64 p, .int .i64 d, .int .i64 q]).formed Tryd.prog 28 = true := by
    simp [Value.formed, Tryd.cellsS]
  have one : ∀ (m : Nat) (x : Int), (Lit.int .i64 x).wf = true → Tryd.prog.keyLits (m + 1) 2 [.int .i64 x] = some [.int .i64 x] := by
    intro m x hx
    simp [Program.keyLits, Tryd.underlying2, hx]
  unfold keyOf
  rw [Tryd.fieldsS]
  simp only [Tryd.keyS, hf, Bool.and_self, if_true, Value.cells]
  obtain ⟨m, hm⟩ := pos_succ Tryd.rowS
  rw [hm]
  unfold Program.keyLits
  rw [Tryd.fieldsS]
  simp only [Tryd.cellsS, hall, hl, List.mapM_cons, List.mapM_nil, t1, t2, t3, o1, o2, o3, Tryd.cellsI]
  simp [one, h1, h2, h3, klS]
theorem wf_small {n : Int} (h1 : -9000000000000000000 ≤ n) (h2 : n ≤ 9000000000000000000) : (Lit.int .i64 n).wf = true := WalkArith.wf_i64 (by omega)
theorem okX_wf {d : Int} {x : Int × Int} (h : okX d x = true) : (Lit.int .i64 x.1).wf = true ∧ (Lit.int .i64 d).wf = true ∧ (Lit.int .i64 x.2).wf = true := by
  obtain ⟨a1, a2, a3, a4, a5, a6, _⟩ := okS_bd h
  exact ⟨wf_small (by omega) (by omega), wf_small (by omega) (by omega), wf_small (by omega) (by omega)⟩
theorem key_x {d : Int} {x : Int × Int} (h : okX d x = true) : keyOf Tryd.prog 28 (.agg #[.int .i64 x.1, .int .i64 d, .int .i64 x.2]) = some (klS x.1 d x.2) := by
  obtain ⟨a, b, c⟩ := okX_wf h
  exact key_surd _ _ _ a b c
theorem kl_ne {d : Int} {x y : Int × Int} (hx : okX d x = true) (hy : okX d y = true) (h : x ≠ y) : klS x.1 d x.2 ≠ klS y.1 d y.2 := by
  intro e
  have k1 := key_x hx
  have k2 := key_x hy
  rw [← e] at k2
  have := lawS.inj k1 k2
  injection this with this
  simp only [Array.mk.injEq, List.cons.injEq, Value.int.injEq, true_and, and_true] at this
  exact h (Prod.ext this.1 this.2)
/-- The map behind n surds. -/
def mpX (d : Int) (o : Nat → Int × Int) : Nat → DataW Unit
  | 0 => .map []
  | n + 1 => (mpX d o n).put (klS (o n).1 d (o n).2) (.lit (.int .i64 n))
theorem mp_isMap (d : Int) (o : Nat → Int × Int) (n : Nat) : IsMap (mpX d o n) := by
  cases n with
  | zero => exact isMap_empty
  | succ n => exact IsMap.put (mp_isMap d o n) _ _
theorem mp_find {d : Int} {o : Nat → Int × Int} {x : Int × Int} (hx : okX d x = true) (z : DataW Unit) : ∀ n, (∀ k, k < n → okX d (o k) = true) → (∀ a b, a < b → b < n → o a ≠ o b) →
    (∀ j, fnd o x n = some j → Maps.has (mpX d o n) (klS x.1 d x.2) = true ∧ (mpX d o n).atKey (klS x.1 d x.2) z = .lit (.int .i64 j)) ∧ (fnd o x n = none → Maps.has (mpX d o n) (klS x.1 d x.2) = false)
  | 0, _, _ => ⟨fun j h => by simp [fnd] at h, fun _ => rfl⟩
  | n + 1, hok, hap => by
    obtain ⟨i1, i2⟩ := mp_find hx z n (fun k hk => hok k (by omega)) (fun a b hab hb => hap a b hab (by omega))
    have hn := hok n (by omega)
    have hk := lawS.key (key_x hn)
    cases hf : fnd o x n with
    | some i =>
      obtain ⟨a, b, _⟩ := fnd_some hf
      obtain ⟨h1, h2⟩ := i1 i hf
      have hne := kl_ne hx hn (fun e => hap i n a (by omega) (b.trans e))
      have he : fnd o x (n + 1) = some i := by simp [fnd, hf]
      rw [he]
      refine ⟨fun j hj => ?_, fun h => by simp at h⟩
      obtain rfl : i = j := by simpa using hj
      exact ⟨by unfold mpX; rw [has_put_other hne]; exact h1, by unfold mpX; rw [atKey_put_other hne]; exact h2⟩
    | none =>
      have h2 := i2 hf
      by_cases he : o n = x
      · have e : fnd o x (n + 1) = some n := by simp [fnd, hf, he]
        rw [e]
        refine ⟨fun j hj => ?_, fun h => by simp at h⟩
        obtain rfl : n = j := by simpa using hj
        unfold mpX
        rw [he] at hk ⊢
        exact ⟨has_put_same (mp_isMap d o n) hk _, atKey_put_same (mp_isMap d o n) hk _ _⟩
      · have e : fnd o x (n + 1) = none := by simp [fnd, hf, he]
        rw [e]
        refine ⟨fun j hj => by simp at hj, fun _ => ?_⟩
        unfold mpX
        rw [has_put_other (kl_ne hx hn (fun e => he e.symm))]
        exact h2
end Go.Proofs.YtibbokllongomaaDoor
