/-
  Rows of numbers and of surds: blocks and cells; marks, and marks that are held.
-/
import Derived.Test.YtlmmpeeacjbobaaGreatDoorInts
import Derived.Laws.Rows
import Derived.Laws.StructEq
import Derived.ChangeKeysEq
namespace Go.Proofs.YtlmmpeeacjbobaaGreatDoor
open Go.RowKit

/-! ### Blocks and cells -/
/-- Block g is just these cells. -/
def Blk (w : World) (g : Nat) (t : TypeId) (cs : Array Value) : Prop := w.heap[g]? = some (.cells cs t (0, 0))
section
variable {w w' : World} {g : Nat} {t : TypeId} {cs : Array Value}
theorem Blk.lt (h : Blk w g t cs) : g < w.heap.size := (Array.getElem?_eq_some_iff.1 h).1
theorem Blk.cell (h : Blk w g t cs) (i : Nat) : w.cell? ⟨g, i, none⟩ = cs[i]? := cell_of_row w g i cs t (0, 0) h
theorem Blk.frozen (h : Blk w g t cs) (i : Nat) : w.frozen? ⟨g, i, none⟩ = false := by
  unfold Blk at h
  simp [World.frozen?, h]
theorem Blk.new (w : World) (t : TypeId) (cs : Array Value) : Blk (w.alloc (.cells cs t)) w.heap.size t cs := heap_alloc_new w _
theorem Blk.drew (h : Blk w g t cs) : Blk w.drew g t cs := h
theorem Blk.alloc (h : Blk w g t cs) (o : Obj) : Blk (w.alloc o) g t cs := (Below.heap_alloc w o g h.lt).trans h
theorem Blk.set_ (h : Blk w g t cs) (i : Nat) (u : Value) : Blk (w.setCell ⟨g, i, none⟩ u) g t (cs.setIfInBounds i u) := by
  unfold Blk at h ⊢
  simp [World.setCell, Array.getElem?_modify, h]
theorem Blk.far (h : Blk w g t cs) {p : Addr} (hp : g ≠ p.block) (u : Value) : Blk (w.setCell p u) g t cs := (Below.heap_setCell w p u g hp).trans h
theorem Blk.set2 {x y : Value} (h : Blk w g t #[x, y]) (u v : Value) : Blk ((w.setCell ⟨g, 0, none⟩ u).setCell ⟨g, 1, none⟩ v) g t #[u, v] := (h.set_ 0 u).set_ 1 v
theorem Blk.set3 {x y z : Value} (h : Blk w g t #[x, y, z]) (u v a : Value) : Blk (((w.setCell ⟨g, 0, none⟩ u).setCell ⟨g, 1, none⟩ v).setCell ⟨g, 2, none⟩ a) g t #[u, v, a] := ((h.set_ 0 u).set_ 1 v).set_ 2 a
theorem Blk.below {B : Nat} (h : Blk w g t cs) (hb : Below B w w') (hg : g < B) : Blk w' g t cs := (hb.block g hg).trans h
theorem Blk.grown {row : Option Nat} (h : Blk w g t cs) (hb : w.grownBy w' row) (hg : some g ≠ row) : Blk w' g t cs := (hb.block g h.lt hg).trans h
end

theorem no_block {v : Value} {g : Nat} {w : World} {base : Nat} {e : TypeId} {size n : Nat} {xs : List Value} (h : w.ownsRow base e size v n xs) (hg : w.heap.size ≤ g) : some g ≠ v.ownBlock := by
  intro he
  have := (h.lt g he.symm).2
  omega
theorem blk_new2 (w : World) (t : TypeId) (o : Obj) (cs : Array Value) (o' : Obj) : Blk (((w.alloc o).alloc (.cells cs t)).alloc o') (w.heap.size + 1) t cs := by
  have h := (Blk.new (w.alloc o) t cs).alloc o'
  rwa [World.size_alloc] at h
theorem own_far {w : World} {base : Nat} {e : TypeId} {size n : Nat} {v : Value} {xs : List Value} (h : w.ownsRow base e size v n xs) {p : Addr} (hp : v.ownBlock ≠ some p.block) (u : Value) : (w.setCell p u).ownsRow base e size v n xs := by
  refine h.kept (row := some p.block) ⟨rfl, rfl, rfl, by simp [World.setCell], fun k hk hne => Below.heap_setCell _ _ _ _ (fun e => hne (by rw [e]))⟩ (.inr hp)
theorem blk_two {w w1 : World} {ga gb : Nat} {t : TypeId} {x1 x2 y1 y2 : Value} {row : Option Nat} (hA : Blk w ga t #[x1, x2]) (hB : Blk w gb t #[y1, y2]) (hg : w.grownBy w1 row) (ha : row ≠ some ga) (hb : row ≠ some gb) :
    Blk w1 ga t #[x1, x2] ∧ Blk w1 gb t #[y1, y2] ∧ w1.cell? ⟨ga, 0, none⟩ = some x1 ∧ w1.cell? ⟨ga, 1, none⟩ = some x2 ∧ w1.cell? ⟨gb, 0, none⟩ = some y1 ∧ w1.cell? ⟨gb, 1, none⟩ = some y2 ∧
      w1.frozen? ⟨ga, 0, none⟩ = false ∧ w1.frozen? ⟨ga, 1, none⟩ = false ∧ w1.frozen? ⟨gb, 0, none⟩ = false ∧ w1.frozen? ⟨gb, 1, none⟩ = false ∧ ga < w1.heap.size ∧ gb < w1.heap.size := by
  have a := hA.grown hg (Ne.symm ha)
  have b := hB.grown hg (Ne.symm hb)
  exact ⟨a, b, a.cell 0, a.cell 1, b.cell 0, b.cell 1, a.frozen 0, a.frozen 1, b.frozen 0, b.frozen 1, a.lt, b.lt⟩

/-- The cells of a list, of which the first t hold the numbers k, k + 1 .. -/
def mkd (k : Int) (t : Nat) (xs : List Value) : List Value := (List.range t).map (fun i : Nat => Value.int .i64 (k + (i : Int))) ++ xs.drop t
theorem mkd_zero (k : Int) (xs : List Value) : mkd k 0 xs = xs := by simp [mkd]
theorem mkd_len (k : Int) (t : Nat) (xs : List Value) (h : t ≤ xs.length) : (mkd k t xs).length = xs.length := by
  simp only [mkd, List.length_append, List.length_map, List.length_range, List.length_drop]; omega
theorem mkd_set (k : Int) (t : Nat) (xs : List Value) (h : t < xs.length) : (mkd k t xs).set t (.int .i64 (k + (t : Int))) = mkd k (t + 1) xs := by
  unfold mkd
  rw [List.set_append_right _ _ (by simp), List.range_succ, List.map_append]
  simp only [List.length_map, List.length_range, Nat.sub_self]
  rw [List.drop_eq_getElem_cons h, List.set_cons_zero]
  simp
theorem mkd_get (k : Int) (t : Nat) (xs : List Value) (i : Nat) (h : i < t) : (mkd k t xs)[i]? = some (.int .i64 (k + (i : Int))) := by
  unfold mkd
  rw [List.getElem?_append_left (by simpa using h), List.getElem?_map, List.getElem?_range h]
  rfl

/-- The marks are laid: the number behind the last one is returned; the row alone has turned. -/
def MarkPost (w : World) (base : Nat) (e : TypeId) (size : Nat) (v : Value) (n : Nat) (k : Int) (xs : List Value) (r : Int) (en : Ending) (w' : World) : Prop :=
  en = .returned (.int .i64 r) ∧ w'.ownsRow base e size v n (mkd k (n * size) xs) ∧ w.grownBy w' v.ownBlock
/-- A row that a later call has made lies apart from an elder one. -/
theorem own_apart {w1 w2 : World} {b1 b2 s1 s2 n1 n2 : Nat} {e1 e2 : TypeId} {v1 v2 : Value} {x1 x2 : List Value} (h1 : w1.ownsRow b1 e1 s1 v1 n1 x1) (h2 : w2.ownsRow b2 e2 s2 v2 n2 x2) (hb : w1.heap.size ≤ b2) : v1.ownBlock = none ∨ v1.ownBlock ≠ v2.ownBlock := by
  cases hv : v1.ownBlock with
  | none => exact .inl rfl
  | some g =>
    refine .inr fun he => ?_
    have a := (h1.lt g hv).2
    have b := (h2.lt g he.symm).1
    omega
theorem grown_below {w w' : World} {B b s n : Nat} {e : TypeId} {v : Value} {xs : List Value} (h : w.ownsRow b e s v n xs) (hg : w.grownBy w' v.ownBlock) (hB : B ≤ b) (hw : B ≤ w.heap.size) : Below B w w' :=
  (Below.refl _ _).grown hg hw (fun k hk => Nat.le_trans hB (h.lt k hk).1)
def MarkR (w : World) (base : Nat) (e : TypeId) (size : Nat) (v : Value) (n : Nat) (k0 : Int) (xs : List Value) (row : Option Nat) (k : Nat) (x i : Value) (wr : World) : Prop :=
  ∃ j : Nat, j ≤ n ∧ n ≤ j + k ∧ i = .int .i64 j ∧ x = .int .i64 (k0 + (j : Int) * (size : Int)) ∧ wr.ownsRow base e size v n (mkd k0 (j * size) xs) ∧ w.grownBy wr row
theorem grown_trans {a b c : World} {row : Option Nat} (h : a.grownBy b row) (k : b.grownBy c row) : a.grownBy c row :=
  ⟨k.os.trans h.os, k.tape.trans h.tape, k.output.trans h.output, Nat.le_trans h.size k.size, fun i hi hne => (k.block i (Nat.lt_of_lt_of_le hi h.size) hne).trans (h.block i hi hne)⟩
def HeldR (w : World) (n : Nat) (k0 : Int) (size : Int) (k : Nat) (x i : Value) (wr : World) : Prop :=
  ∃ j : Nat, j ≤ n ∧ n ≤ j + k ∧ i = .int .i64 j ∧ x = .int .i64 (k0 + (j : Int) * size) ∧ Below w.heap.size w wr
end Go.Proofs.YtlmmpeeacjbobaaGreatDoor
