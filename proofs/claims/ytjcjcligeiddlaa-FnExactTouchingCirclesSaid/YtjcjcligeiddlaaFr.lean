/-
  Slices of fractions: the words for them; the laws' own functions on them: equality, marks, and marks that are held.
-/
import Derived.Test.YtjcjcligeiddlaaInts
import Derived.Test.YtjcjcligeiddlaaFrac
import Derived.Laws.Rows
import Derived.Laws.StructEq
import Derived.ChangeKeysEq
namespace Go.Proofs.Ytjcjcligeiddlaa
open Go.RowKit

/-! ### Blocks and cells -/
/-- Block g is just these cells. -/
def Blk (w : World) (g : Nat) (t : TypeId) (cs : Array Value) : Prop := w.heap[g]? = some (.cells cs t (0, 0))
section
variable {w w' : World} {g : Nat} {t : TypeId} {cs : Array Value}
theorem Blk.lt (h : Blk w g t cs) : g < w.heap.size := (Array.getElem?_eq_some_iff.1 h).1
theorem Blk.cell (h : Blk w g t cs) (i : Nat) : w.cell? ⟨g, i, none⟩ = cs[i]? := cell_of_row w g i cs t (0, 0) h
theorem Blk.frozen (h : Blk w g t cs) (i : Nat) : w.frozen? ⟨g, i, none⟩ = false := by
  unfold Blk at h
  simp [World.frozen?, h]
theorem Blk.new (w : World) (t : TypeId) (cs : Array Value) : Blk (w.alloc (.cells cs t)) w.heap.size t cs := heap_alloc_new w _
theorem Blk.drew (h : Blk w g t cs) : Blk w.drew g t cs := h
theorem Blk.alloc (h : Blk w g t cs) (o : Obj) : Blk (w.alloc o) g t cs := (Below.heap_alloc w o g h.lt).trans h
theorem Blk.set_ (h : Blk w g t cs) (i : Nat) (u : Value) : Blk (w.setCell ⟨g, i, none⟩ u) g t (cs.setIfInBounds i u) := by
  unfold Blk at h ⊢
  simp [World.setCell, Array.getElem?_modify, h]
theorem Blk.far (h : Blk w g t cs) {p : Addr} (hp : g ≠ p.block) (u : Value) : Blk (w.setCell p u) g t cs := (Below.heap_setCell w p u g hp).trans h
theorem Blk.set2 {x y : Value} (h : Blk w g t #[x, y]) (u v : Value) : Blk ((w.setCell ⟨g, 0, none⟩ u).setCell ⟨g, 1, none⟩ v) g t #[u, v] := (h.set_ 0 u).set_ 1 v
theorem Blk.set3 {x y z : Value} (h : Blk w g t #[x, y, z]) (u v a : Value) : Blk (((w.setCell ⟨g, 0, none⟩ u).setCell ⟨g, 1, none⟩ v).setCell ⟨g, 2, none⟩ a) g t #[u, v, a] := ((h.set_ 0 u).set_ 1 v).set_ 2 a
theorem Blk.below {B : Nat} (h : Blk w g t cs) (hb : Below B w w') (hg : g < B) : Blk w' g t cs := (hb.block g hg).trans h
theorem Blk.grown {row : Option Nat} (h : Blk w g t cs) (hb : w.grownBy w' row) (hg : some g ≠ row) : Blk w' g t cs := (hb.block g h.lt hg).trans h
end

theorem no_block {v : Value} {g : Nat} {w : World} {base : Nat} {e : TypeId} {size n : Nat} {xs : List Value} (h : w.ownsRow base e size v n xs) (hg : w.heap.size ≤ g) : some g ≠ v.ownBlock := by
  intro he
  have := (h.lt g he.symm).2
  omega
theorem blk_new2 (w : World) (t : TypeId) (o : Obj) (cs : Array Value) (o' : Obj) : Blk (((w.alloc o).alloc (.cells cs t)).alloc o') (w.heap.size + 1) t cs := by
  have h := (Blk.new (w.alloc o) t cs).alloc o'
  rwa [World.size_alloc] at h
theorem own_far {w : World} {base : Nat} {e : TypeId} {size n : Nat} {v : Value} {xs : List Value} (h : w.ownsRow base e size v n xs) {p : Addr} (hp : v.ownBlock ≠ some p.block) (u : Value) : (w.setCell p u).ownsRow base e size v n xs := by
  refine h.kept (row := some p.block) ⟨rfl, rfl, rfl, by simp [World.setCell], fun k hk hne => Below.heap_setCell _ _ _ _ (fun e => hne (by rw [e]))⟩ (.inr hp)
theorem blk_two {w w1 : World} {ga gb : Nat} {t : TypeId} {x1 x2 y1 y2 : Value} {row : Option Nat} (hA : Blk w ga t #[x1, x2]) (hB : Blk w gb t #[y1, y2]) (hg : w.grownBy w1 row) (ha : row ≠ some ga) (hb : row ≠ some gb) :
    Blk w1 ga t #[x1, x2] ∧ Blk w1 gb t #[y1, y2] ∧ w1.cell? ⟨ga, 0, none⟩ = some x1 ∧ w1.cell? ⟨ga, 1, none⟩ = some x2 ∧ w1.cell? ⟨gb, 0, none⟩ = some y1 ∧ w1.cell? ⟨gb, 1, none⟩ = some y2 ∧
      w1.frozen? ⟨ga, 0, none⟩ = false ∧ w1.frozen? ⟨ga, 1, none⟩ = false ∧ w1.frozen? ⟨gb, 0, none⟩ = false ∧ w1.frozen? ⟨gb, 1, none⟩ = false ∧ ga < w1.heap.size ∧ gb < w1.heap.size := by
  have a := hA.grown hg (Ne.symm ha)
  have b := hB.grown hg (Ne.symm hb)
  exact ⟨a, b, a.cell 0, a.cell 1, b.cell 0, b.cell 1, a.frozen 0, a.frozen 1, b.frozen 0, b.frozen 1, a.lt, b.lt⟩

/-- The cells of a list, of which the first t hold the numbers k, k + 1 .. -/
def mkd (k : Int) (t : Nat) (xs : List Value) : List Value := (List.range t).map (fun i : Nat => Value.int .i64 (k + (i : Int))) ++ xs.drop t
theorem mkd_zero (k : Int) (xs : List Value) : mkd k 0 xs = xs := by simp [mkd]
theorem mkd_len (k : Int) (t : Nat) (xs : List Value) (h : t ≤ xs.length) : (mkd k t xs).length = xs.length := by
  simp only [mkd, List.length_append, List.length_map, List.length_range, List.length_drop]; omega
theorem mkd_set (k : Int) (t : Nat) (xs : List Value) (h : t < xs.length) : (mkd k t xs).set t (.int .i64 (k + (t : Int))) = mkd k (t + 1) xs := by
  unfold mkd
  rw [List.set_append_right _ _ (by simp), List.range_succ, List.map_append]
  simp only [List.length_map, List.length_range, Nat.sub_self]
  rw [List.drop_eq_getElem_cons h, List.set_cons_zero]
  simp
theorem mkd_get (k : Int) (t : Nat) (xs : List Value) (i : Nat) (h : i < t) : (mkd k t xs)[i]? = some (.int .i64 (k + (i : Int))) := by
  unfold mkd
  rw [List.getElem?_append_left (by simpa using h), List.getElem?_map, List.getElem?_range h]
  rfl

/-- The cells of a list of pairs. -/
def prs (xs : List (Int × Int)) : List Value := xs.flatMap fun p => [.int .i64 p.1, .int .i64 p.2]
theorem prs_len (xs : List (Int × Int)) : (prs xs).length = xs.length * 2 := by
  induction xs with
  | nil => rfl
  | cons x xs ih => simp only [prs, List.flatMap_cons, List.length_append, List.length_cons, List.length_nil] at ih ⊢; omega
theorem prs_get {xs : List (Int × Int)} {k : Nat} {z : Int × Int} (h : xs[k]? = some z) : (prs xs)[k * 2]? = some (.int .i64 z.1) ∧ (prs xs)[k * 2 + 1]? = some (.int .i64 z.2) := by
  induction xs generalizing k with
  | nil => simp at h
  | cons x xs ih =>
    cases k with
    | zero => simp at h; subst h; simp [prs]
    | succ k =>
      have h2 := ih (k := k) (by simpa using h)
      have e1 : (k + 1) * 2 = k * 2 + 2 := by omega
      rw [e1]
      simp only [prs, List.flatMap_cons] at h2 ⊢
      exact h2
theorem prs_snoc (xs : List (Int × Int)) (p : Int × Int) : prs (xs ++ [p]) = prs xs ++ [.int .i64 p.1, .int .i64 p.2] := by simp [prs]
theorem Try.infoF : (Try.prog.info? 30).map (fun i => (i.zero, i.size, i.bytes)) = some (some (.agg #[.int .i64 0, .int .i64 0]), 2, 16) := by kernel_rfl

theorem own_lit2 (w : World) (o o' : Obj) (x y : Int) : (((w.alloc o).alloc o').alloc (.cells #[.int .i64 x, .int .i64 y] 30)).ownsRow w.heap.size 30 2 (.slice (some ⟨w.heap.size + 1 + 1, 0, none⟩) 1 1) 1 (prs [(x, y)]) := by
  have h := World.ownsRow_lit (base := w.heap.size) (size := 2) (e := 30) ((w.alloc o).alloc o') #[.int .i64 x, .int .i64 y] 1 (by rw [World.size_alloc, World.size_alloc]; omega) (by simp [maxLen]) rfl
  rw [World.size_alloc, World.size_alloc] at h
  exact h
/-! ### '==' on fractions -/
theorem Try.fieldsF : Try.prog.underlying 30 = some (.struct (Try.prog.fieldsOf 30)) := by kernel_rfl
theorem Try.listF : (Try.prog.fieldsOf 30).toList.map (fun f => (f.name, f.type, f.offset)) = [("Num", 2, 0), ("Den", 2, 1)] := by kernel_rfl
theorem Try.heldF : Try.prog.stoodInHeld 30 = false := by kernel_rfl
theorem Try.guardF : Try.prog.eqGuardType Try.prog.depth 30 = false := by kernel_rfl
theorem run_guardF (op : BinOp) (x y : Operand) (xs ys : Array Value) (w : World) : (eqGuard op 30 x y (.agg xs) (.agg ys)).run Try.prog w = .ok () w := run_eqGuard_agg w op _ x y xs ys Try.guardF
theorem run_eqFields2 {P : Program} {t : TypeId} {k : IntKind} (ht : P.underlying t = some (.int k)) (hk : P.plainKey t = true) {f1 f2 : Field} (n1 : f1.name ≠ "_") (n2 : f2.name ≠ "_") (t1 : f1.type = t) (t2 : f2.type = t) (o1 : f1.offset = 0) (o2 : f2.offset = 1) (m : Nat) (a b c d : Int) (w : World) :
    (Op.eqFields (m + 1) #[.int k a, .int k b] #[.int k c, .int k d] [f1, f2]).run P w = .ok (a == c && b == d) w := by
  have p0 : ∀ x y : Int, (part t #[.int k x, .int k y] 0).run P w = .ok (.int k x) w := fun x y => run_part_plain (P := P) (w := w) hk rfl
  have p1 : ∀ x y : Int, (part t #[.int k x, .int k y] 1).run P w = .ok (.int k y) w := fun x y => run_part_plain (P := P) (w := w) hk rfl
  have q := fun x y : Int => run_equalIn_int (P := P) w m t k k x y ht
  simp only [Op.eqFields, n1, n2, t1, t2, o1, o2, ne_eq, not_false_eq_true, if_true, Sem.run_bind, p0, p1, q, Result.andThen_ok, Sem.run_ite, Sem.run_pure]
  cases a == c <;> cases b == d <;> rfl
theorem fields2 {P : Program} {s t : TypeId} {x y : String} (hl : (P.fieldsOf s).toList.map (fun f => (f.name, f.type, f.offset)) = [(x, t, 0), (y, t, 1)]) : ∃ f1 f2, (P.fieldsOf s).toList = [f1, f2] ∧ f1.name = x ∧ f2.name = y ∧ f1.type = t ∧ f2.type = t ∧ f1.offset = 0 ∧ f2.offset = 1 := by
  generalize (P.fieldsOf s).toList = l at *
  have h3 : l.length = 2 := by have := congrArg List.length hl; simpa using this
  obtain ⟨f1, r1, rfl⟩ := List.exists_cons_of_length_pos (show 0 < l.length by omega)
  obtain ⟨f2, r2, rfl⟩ := List.exists_cons_of_length_pos (show 0 < r1.length by simp at h3; omega)
  obtain rfl : r2 = [] := List.eq_nil_of_length_eq_zero (by simpa using h3)
  simp only [List.map_cons, List.map_nil, List.cons.injEq, Prod.mk.injEq, and_true] at hl
  exact ⟨f1, f2, rfl, hl.1.1, hl.2.1, hl.1.2.1, hl.2.2.1, hl.1.2.2, hl.2.2.2⟩
theorem Try.plainI : Try.prog.plainKey 2 = true := by kernel_rfl
theorem run_eqF (a b c d : Int) (r : Bool) (hr : (a == c && b == d) = r) (w : World) : (binOp .eql 30 (.agg #[.int .i64 a, .int .i64 b]) (.agg #[.int .i64 c, .int .i64 d])).run Try.prog w = .ok (.bool r) w := by
  rw [run_eql_struct, run_equalIn_struct (P := Try.prog) w 9999 30 _ _ Try.fieldsF Try.heldF]
  obtain ⟨f1, f2, hl, n1, n2, t1, t2, o1, o2⟩ := fields2 Try.listF
  subst hr
  rw [hl, run_eqFields2 Try.underlying2 Try.plainI (by rw [n1]; decide) (by rw [n2]; decide) t1 t2 o1 o2 9998]
  rfl
def EqFR (w : World) (n : Nat) (ys zs : List (Int × Int)) (k : Nat) (i : Value) (wr : World) : Prop :=
  ∃ j : Nat, j ≤ n ∧ n ≤ j + k ∧ i = .int .i64 j ∧ (∀ t, t < j → ys[t]? = zs[t]?) ∧ Below w.heap.size w wr
set_option maxHeartbeats 1000000 in
theorem eqFractionS_any (v v' : Value) (n n' : Nat) (ys zs : List (Int × Int)) (w : World) (hv : Rd w 2 v n (prs ys)) (hv' : Rd w 2 v' n' (prs zs)) (r : Bool) (hr : (ys == zs) = r) :
    Calls Try.prog 33 #[v, v'] w (Ret w (.bool r)) := by
  have HR := Lib.hid hr
  clear hr
  obtain ⟨hl1, hm1⟩ := rd_len hv
  obtain ⟨hl2, hm2⟩ := rd_len hv'
  obtain ⟨A, c, rfl, hn1, hc1, _, hr1⟩ := hv
  obtain ⟨A', c', rfl, hn2, hc2, _, hr2⟩ := hv'
  rw [prs_len] at hl1 hl2
  by_cases hnn : n = n'
  · subst hnn
    have hle : ys.length = zs.length := by omega
    have L1 := Lib.hid (show ys.length = n by omega)
    have L2 := Lib.hid (show zs.length = n by omega)
    have L3 := Lib.hid hle
    have R1 := Lib.hid hr1
    have R2 := Lib.hid hr2
    clear hl1 hl2 hle hr1 hr2
    go_enter Try.func33, Try.ntmps33
    go_wp2_with fail
    go_loopg [5] n (EqFR w n ys zs)
    case atStart => exact ⟨0, by omega, by omega, rfl, by omega, Below.refl _ _⟩
    case round =>
      obtain ⟨j, hj1, hj2, rfl, hall, hbw⟩ := hrel
      have HA := Lib.hid hall
      clear hall
      by_cases hjn : j < n
      · obtain ⟨⟨y1, y2⟩, hy⟩ := get_ex (l := ys) (k := j) (by have := L1.out; omega)
        obtain ⟨⟨z1, z2⟩, hz⟩ := get_ex (l := zs) (k := j) (by have := L2.out; omega)
        rcases R1.out with h0 | ⟨g, o, rfl, hg, hcell⟩
        · omega
        rcases R2.out with h0 | ⟨g', o', rfl, hg', hcell'⟩
        · omega
        have c1 : wr.cell? ⟨g, o + j * 2, none⟩ = some (.int .i64 y1) := (hbw.cell (p := ⟨g, o + j * 2, none⟩) hg).trans (hcell (j * 2) _ (prs_get hy).1)
        have c2 : wr.cell? ⟨g, o + j * 2 + 1, none⟩ = some (.int .i64 y2) := (hbw.cell (p := ⟨g, o + j * 2 + 1, none⟩) hg).trans (hcell (j * 2 + 1) _ (prs_get hy).2)
        have c3 : wr.cell? ⟨g', o' + j * 2, none⟩ = some (.int .i64 z1) := (hbw.cell (p := ⟨g', o' + j * 2, none⟩) hg').trans (hcell' (j * 2) _ (prs_get hz).1)
        have c4 : wr.cell? ⟨g', o' + j * 2 + 1, none⟩ = some (.int .i64 z2) := (hbw.cell (p := ⟨g', o' + j * 2 + 1, none⟩) hg').trans (hcell' (j * 2 + 1) _ (prs_get hz).2)
        have hs := hbw.size
        have hgw : g < wr.heap.size := by omega
        have hgw' : g' < wr.heap.size := by omega
        have hjn' : (j : Int) < (n : Int) := by omega
        have HY := Lib.hid hy
        have HZ := Lib.hid hz
        clear hy hz hcell hcell' R1 R2
        cases hyz : (y1 == z1 && y2 == z2)
        · have e2 : (ys == zs) = false := by
            rw [beq_eq_false_iff_ne]
            intro e
            have h1 := HY.out
            rw [e, HZ.out] at h1
            injection h1 with h1
            injection h1 with h1 h2
            subst h1 h2
            simp at hyz
          have E := Lib.hid hyz
          obtain rfl : false = r := by rw [← HR.out, e2]
          clear e2 hyz HR
          go_wp2_with fail
          refine wp_region_calm (by kernel_rfl) (by kernel_rfl) ?_
          repeat (go_big_quiet_step ((with_reducible exact calm (eqFraction_any _ _ _ _ false E.out _))))
          refine wpQuiet_nil ?_
          intro w1 hb_w1
          obtain ⟨hc_w1, hf_w1, hs_w1⟩ := bcell hb_w1
          try simp at hs_w1
          go_wp2
          go_ret
          refine ⟨by first | rfl | (simp), ?_⟩
          repeat' (first | (with_reducible exact Below.refl _ _) | (with_reducible assumption) | (with_reducible refine Below.alloc ?_ ?_ _) | (with_reducible refine Below.drew ?_) | (with_reducible refine bdrewN ?_ _) | (with_reducible refine Below.setCell ?_ ?_ _) | (with_reducible refine bthen ?_ (by assumption) ?_) | go_size)
        · have E := Lib.hid hyz
          clear hyz
          go_wp2_with fail
          refine wp_region_calm (by kernel_rfl) (by kernel_rfl) ?_
          repeat (go_big_quiet_step ((with_reducible exact calm (eqFraction_any _ _ _ _ true E.out _))))
          refine wpQuiet_nil ?_
          intro w1 hb_w1
          obtain ⟨hc_w1, hf_w1, hs_w1⟩ := bcell hb_w1
          try simp at hs_w1
          go_wp2
          go_roundg (gk - 1)
          case measure => omega
          case rel =>
            refine ⟨j + 1, by omega, by omega, by go_num, ?_, bthen hbw hb_w1 hbw.size⟩
            intro t ht
            by_cases e : t = j
            · subst e
              rw [HY.out, HZ.out]
              have := E.out
              simp only [Bool.and_eq_true, beq_iff_eq] at this
              rw [this.1, this.2]
            · exact HA.out t (by omega)
      · have e2 : (ys == zs) = true := by
          rw [beq_iff_eq]
          apply List.ext_getElem?
          intro t
          by_cases ht : t < j
          · exact HA.out t ht
          · rw [List.getElem?_eq_none (by have := L1.out; omega), List.getElem?_eq_none (by have := L2.out; omega)]
        obtain rfl : true = r := by rw [← HR.out, e2]
        clear e2 HR
        go_wp2
        go_ret
        refine ⟨by first | rfl | (simp), ?_⟩
        repeat' (first | (with_reducible exact Below.refl _ _) | (with_reducible assumption) | (with_reducible refine Below.alloc ?_ ?_ _) | (with_reducible refine Below.drew ?_) | (with_reducible refine bdrewN ?_ _) | (with_reducible refine Below.setCell ?_ ?_ _) | (with_reducible refine bthen ?_ (by assumption) ?_) | go_size)
  · have e2 : (ys == zs) = false := by
      rw [beq_eq_false_iff_ne]
      intro e
      subst e
      omega
    have e3 : ((n : Int) != (n' : Int)) = true := by
      rw [bne_iff_ne]
      omega
    obtain rfl : false = r := by rw [← HR.out, e2]
    clear e2 hr1 hr2 hl1 hl2 hnn HR
    go_enter Try.func33, Try.ntmps33
    go_wp2
    go_ret
    refine ⟨by first | rfl | (simp), ?_⟩
    repeat' (first | (with_reducible exact Below.refl _ _) | (with_reducible assumption) | (with_reducible refine Below.alloc ?_ ?_ _) | (with_reducible refine Below.drew ?_) | (with_reducible refine bdrewN ?_ _) | (with_reducible refine Below.setCell ?_ ?_ _) | (with_reducible refine bthen ?_ (by assumption) ?_) | go_size)
/-- The marks are laid: the number behind the last one is returned; the row alone has turned. -/
def MarkPost (w : World) (base : Nat) (e : TypeId) (size : Nat) (v : Value) (n : Nat) (k : Int) (xs : List Value) (r : Int) (en : Ending) (w' : World) : Prop :=
  en = .returned (.int .i64 r) ∧ w'.ownsRow base e size v n (mkd k (n * size) xs) ∧ w.grownBy w' v.ownBlock
/-- A row that a later call has made lies apart from an elder one. -/
theorem own_apart {w1 w2 : World} {b1 b2 s1 s2 n1 n2 : Nat} {e1 e2 : TypeId} {v1 v2 : Value} {x1 x2 : List Value} (h1 : w1.ownsRow b1 e1 s1 v1 n1 x1) (h2 : w2.ownsRow b2 e2 s2 v2 n2 x2) (hb : w1.heap.size ≤ b2) : v1.ownBlock = none ∨ v1.ownBlock ≠ v2.ownBlock := by
  cases hv : v1.ownBlock with
  | none => exact .inl rfl
  | some g =>
    refine .inr fun he => ?_
    have a := (h1.lt g hv).2
    have b := (h2.lt g he.symm).1
    omega
theorem grown_below {w w' : World} {B b s n : Nat} {e : TypeId} {v : Value} {xs : List Value} (h : w.ownsRow b e s v n xs) (hg : w.grownBy w' v.ownBlock) (hB : B ≤ b) (hw : B ≤ w.heap.size) : Below B w w' :=
  (Below.refl _ _).grown hg hw (fun k hk => Nat.le_trans hB (h.lt k hk).1)
def MarkR (w : World) (base : Nat) (e : TypeId) (size : Nat) (v : Value) (n : Nat) (k0 : Int) (xs : List Value) (row : Option Nat) (k : Nat) (x i : Value) (wr : World) : Prop :=
  ∃ j : Nat, j ≤ n ∧ n ≤ j + k ∧ i = .int .i64 j ∧ x = .int .i64 (k0 + (j : Int) * (size : Int)) ∧ wr.ownsRow base e size v n (mkd k0 (j * size) xs) ∧ w.grownBy wr row
theorem grown_trans {a b c : World} {row : Option Nat} (h : a.grownBy b row) (k : b.grownBy c row) : a.grownBy c row :=
  ⟨k.os.trans h.os, k.tape.trans h.tape, k.output.trans h.output, Nat.le_trans h.size k.size, fun i hi hne => (k.block i (Nat.lt_of_lt_of_le hi h.size) hne).trans (h.block i hi hne)⟩
set_option maxHeartbeats 1000000 in
theorem markFractionS_any (base : Nat) (v : Value) (n : Nat) (k : Int) (xs : List Value) (w : World) (hv : w.ownsRow base 30 2 v n xs) (hn : n ≤ 1048576) (hk0 : 0 ≤ k) (hk1 : k ≤ 1000000000) :
    Calls Try.prog 34 #[v, .int .i64 k] w (MarkPost w base 30 2 v n k xs (k + (n : Int) * 2)) := by
  have hxs := hv.1
  rcases hv.2 with ⟨rfl, rfl⟩ | ⟨g, cap, cur, rfl, hb, hg, hnc, hcm, hcs, ht⟩
  · have hx : xs = [] := List.eq_nil_of_length_eq_zero (by simpa using hxs)
    subst hx
    go_enter Try.func34, Try.ntmps34
    go_wp2_with fail
    go_loopg [1, 5] 0 (fun _ x i wr => x = .int .i64 k ∧ i = .int .i64 0 ∧ wr = w)
    case atStart => exact ⟨rfl, rfl, rfl⟩
    case round =>
      obtain ⟨rfl, rfl, rfl⟩ := hrel
      go_wp2
      go_ret
      exact ⟨by simp, by simpa [mkd] using hv, World.grownBy.refl _ _⟩
  · clear hb hg hcs ht
    have HX := Lib.hid hxs
    clear hxs
    go_enter Try.func34, Try.ntmps34
    go_wp2_with fail
    go_loopg [1, 5] n (MarkR w base 30 2 (.slice (some ⟨g, 0, none⟩) n cap) n k xs (some g))
    case atStart => exact ⟨0, by omega, by omega, rfl, by simp, by rw [Nat.zero_mul, mkd_zero]; exact hv, World.grownBy.refl _ _⟩
    case round =>
      obtain ⟨j, hj1, hj2, rfl, rfl, hown, hgr⟩ := hrel
      clear hv
      rw [show ((2 : Nat) : Int) = 2 from rfl]
      by_cases hjn : j < n
      · have hjn' : (j : Int) < (n : Int) := by omega
        have hlen : (mkd k (j * 2) xs).length = n * 2 := by rw [mkd_len _ _ _ (by rw [HX.out]; omega), HX.out]
        obtain ⟨y, hy⟩ := get_ex (l := mkd k (j * 2) xs) (k := j * 2) (by omega)
        obtain ⟨z, hz⟩ := get_ex (l := mkd k (j * 2) xs) (k := j * 2 + 1) (by omega)
        have c1 : wr.cell? ⟨g, j * 2, none⟩ = some y := (hown.cellAt (j * 2) (by omega)).trans hy
        have c2 : wr.cell? ⟨g, j * 2 + 1, none⟩ = some z := (hown.cellAt (j * 2 + 1) (by omega)).trans hz
        have f1 : wr.frozen? ⟨g, j * 2, none⟩ = false := hown.frozenAt _
        have f2 : wr.frozen? ⟨g, j * 2 + 1, none⟩ = false := hown.frozenAt _
        obtain ⟨o1, g1⟩ := hown.stored (j * 2) (.int .i64 (k + ((j * 2 : Nat) : Int)))
        obtain ⟨o2, g2⟩ := o1.stored (j * 2 + 1) (.int .i64 (k + ((j * 2 + 1 : Nat) : Int)))
        rw [mkd_set _ _ _ (by rw [HX.out]; omega), mkd_set _ _ _ (by rw [HX.out]; omega)] at o2
        rw [show ((j * 2 : Nat) : Int) = (j : Int) * 2 by omega, show k + ((j * 2 + 1 : Nat) : Int) = k + (j : Int) * 2 + 1 by omega] at o2
        rw [show ((j * 2 : Nat) : Int) = (j : Int) * 2 by omega] at g1 g2
        rw [show k + ((j * 2 + 1 : Nat) : Int) = k + (j : Int) * 2 + 1 by omega] at g2
        have hgr2 := grown_trans (grown_trans hgr g1) g2
        have O2 := Lib.hid o2
        have G2 := Lib.hid hgr2
        clear hy hz hown o1 o2 g1 g2 hgr2 hlen
        go_wp2
        go_roundg (gk - 1)
        case measure => omega
        case rel =>
          refine ⟨j + 1, by omega, by omega, by go_num, ?_, ?_, G2.out⟩
          · rw [show k + ((j + 1 : Nat) : Int) * ((2 : Nat) : Int) = k + (j : Int) * 2 + 1 + 1 by omega]
          · rw [show (j + 1) * 2 = j * 2 + 1 + 1 by omega]; exact O2.out
      · obtain rfl : j = n := by omega
        go_wp2
        go_ret
        exact ⟨rfl, hown, hgr⟩
def HeldR2 (w : World) (n : Nat) (k0 : Int) (k : Nat) (x i : Value) (wr : World) : Prop :=
  ∃ j : Nat, j ≤ n ∧ n ≤ j + k ∧ i = .int .i64 j ∧ x = .int .i64 (k0 + (j : Int) * 2) ∧ Below w.heap.size w wr
set_option maxHeartbeats 1000000 in
theorem heldFractionS_any (v : Value) (n : Nat) (k : Int) (xs : List Value) (w : World) (hv : Rd w 2 v n (mkd k (n * 2) xs)) (hn : n ≤ 1048576) (hk0 : 0 ≤ k) (hk1 : k ≤ 1000000000) :
    Calls Try.prog 35 #[v, .int .i64 k] w (Ret w (.int .i64 (k + (n : Int) * 2))) := by
  obtain ⟨A, c, rfl, hn1, hc1, _, hr1⟩ := hv
  have R1 := Lib.hid hr1
  clear hr1
  go_enter Try.func35, Try.ntmps35
  go_wp2_with fail
  go_loopg [1, 5] n (HeldR2 w n k)
  case atStart => exact ⟨0, by omega, by omega, rfl, by simp, Below.refl _ _⟩
  case round =>
    obtain ⟨j, hj1, hj2, rfl, rfl, hbw⟩ := hrel
    by_cases hjn : j < n
    · have hjn' : (j : Int) < (n : Int) := by omega
      rcases R1.out with h0 | ⟨g, o, rfl, hg, hcell⟩
      · omega
      have m1 := mkd_get k (n * 2) xs (j * 2) (by omega)
      have m2 := mkd_get k (n * 2) xs (j * 2 + 1) (by omega)
      rw [show ((j * 2 : Nat) : Int) = (j : Int) * 2 by omega] at m1
      rw [show k + ((j * 2 + 1 : Nat) : Int) = k + (j : Int) * 2 + 1 by omega] at m2
      have c1 : wr.cell? ⟨g, o + j * 2, none⟩ = some (.int .i64 (k + (j : Int) * 2)) := (hbw.cell (p := ⟨g, o + j * 2, none⟩) hg).trans (hcell (j * 2) _ m1)
      have c2 : wr.cell? ⟨g, o + j * 2 + 1, none⟩ = some (.int .i64 (k + (j : Int) * 2 + 1)) := (hbw.cell (p := ⟨g, o + j * 2 + 1, none⟩) hg).trans (hcell (j * 2 + 1) _ m2)
      clear m1 m2 hcell R1
      go_wp2
      go_roundg (gk - 1)
      case measure => omega
      case rel => exact ⟨j + 1, by omega, by omega, by go_num, by rw [show k + ((j + 1 : Nat) : Int) * 2 = k + (j : Int) * 2 + 1 + 1 by omega], hbw⟩
    · obtain rfl : j = n := by omega
      go_wp2
      go_ret
      refine ⟨by first | rfl | (simp), ?_⟩
      repeat' (first | (with_reducible exact Below.refl _ _) | (with_reducible assumption) | (with_reducible refine Below.alloc ?_ ?_ _) | (with_reducible refine Below.drew ?_) | (with_reducible refine bdrewN ?_ _) | (with_reducible refine Below.setCell ?_ ?_ _) | (with_reducible refine bthen ?_ (by assumption) ?_) | go_size)
end Go.Proofs.Ytjcjcligeiddlaa
