/-
  The walk along the surds of a surd: the reference's way, with its search.
-/
import Derived.Test.YtibbokllongomaaDoorWk2
import Derived.Deep.RegionWith
namespace Go.Proofs.YtibbokllongomaaDoor
open Go.RowKit

theorem Tryd.heldS : Tryd.prog.stoodInHeld 28 = false := by kernel_rfl
theorem Tryd.guardS : Tryd.prog.eqGuardType Tryd.prog.depth 28 = false := by kernel_rfl
theorem Tryd.plainI : Tryd.prog.plainKey 2 = true := by kernel_rfl
theorem run_guardS (op : BinOp) (x y : Operand) (xs ys : Array Value) (w : World) : (eqGuard op 28 x y (.agg xs) (.agg ys)).run Tryd.prog w = .ok () w := run_eqGuard_agg w op _ x y xs ys Tryd.guardS
theorem run_eqFields3 {P : Program} {t : TypeId} {k : IntKind} (ht : P.underlying t = some (.int k)) (hk : P.plainKey t = true) {f1 f2 f3 : Field} (n1 : f1.name ≠ "_") (n2 : f2.name ≠ "_") (n3 : f3.name ≠ "_") (t1 : f1.type = t) (t2 : f2.type = t) (t3 : f3.type = t) (o1 : f1.offset = 0) (o2 : f2.offset = 1) (o3 : f3.offset = 2) (m : Nat) (a b c d e f : Int) (w : World) :
    (Op.eqFields (m + 1) #[.int k a, .int k b, .int k c] #[.int k d, .int k e, .int k f] [f1, f2, f3]).run P w = .ok (a == d && (b == e && c == f)) w := by
  have p0 : ∀ x y z : Int, (part t #[.int k x, .int k y, .int k z] 0).run P w = .ok (.int k x) w := fun x y z => run_part_plain (P := P) (w := w) hk rfl
  have p1 : ∀ x y z : Int, (part t #[.int k x, .int k y, .int k z] 1).run P w = .ok (.int k y) w := fun x y z => run_part_plain (P := P) (w := w) hk rfl
  have p2 : ∀ x y z : Int, (part t #[.int k x, .int k y, .int k z] 2).run P w = .ok (.int k z) w := fun x y z => run_part_plain (P := P) (w := w) hk rfl
  have q := fun x y : Int => run_equalIn_int (P := P) w m t k k x y ht
  simp only [Op.eqFields, n1, n2, n3, t1, t2, t3, o1, o2, o3, ne_eq, not_false_eq_true, if_true, Sem.run_bind, p0, p1, p2, q, Result.andThen_ok, Sem.run_ite, Sem.run_pure]
  cases a == d <;> cases b == e <;> cases c == f <;> rfl
theorem run_eqS (a b c d e f : Int) (r : Bool) (hr : (a == d && (b == e && c == f)) = r) (w : World) : (binOp .eql 28 (.agg #[.int .i64 a, .int .i64 b, .int .i64 c]) (.agg #[.int .i64 d, .int .i64 e, .int .i64 f])).run Tryd.prog w = .ok (.bool r) w := by
  rw [run_eql_struct, run_equalIn_struct (P := Tryd.prog) w 9999 28 _ _ Tryd.fieldsS Tryd.heldS]
  obtain ⟨f1, f2, f3, hl, ⟨n1, n2, n3⟩, ⟨t1, t2, t3⟩, o1, o2, o3⟩ := fields3 Tryd.listS
  subst hr
  rw [hl, run_eqFields3 Tryd.underlying2 Tryd.plainI (by rw [n1]; decide) (by rw [n2]; decide) (by rw [n3]; decide) t1 t2 t3 o1 o2 o3 9998]
  rfl
def fnI (o : Nat → Int × Int) (x : Int × Int) (n : Nat) : Int := match fnd o x n with
  | some j => (j : Int)
  | none => -1
theorem fn_miss {o : Nat → Int × Int} {x : Int × Int} : ∀ {n : Nat}, (∀ t, t < n → o t ≠ x) → fnd o x n = none
  | 0, _ => rfl
  | n + 1, h => by
    have ih := fn_miss (n := n) (fun t ht => h t (by omega))
    simp [fnd, ih, h n (by omega)]
theorem fn_hit {o : Nat → Int × Int} {x : Int × Int} {n j : Nat} (hj : j < n) (he : o j = x) (h : ∀ t, t < j → o t ≠ x) : fnd o x n = some j := by
  induction n with
  | zero => omega
  | succ n ih =>
    rcases Nat.lt_or_ge j n with g | g
    · simp [fnd, ih g]
    · obtain rfl : j = n := by omega
      simp [fnd, fn_miss h, he]
def FindR (w : World) (o : Nat → Int × Int) (x : Int × Int) (n : Nat) (k : Nat) (i : Value) (wr : World) : Prop :=
  ∃ j : Nat, j ≤ n ∧ n ≤ j + k ∧ i = .int .i64 j ∧ (∀ t, t < j → o t ≠ x) ∧ Below w.heap.size w wr
set_option maxHeartbeats 1000000 in
theorem l08Find_any (v : Value) (n : Nat) (d : Int) (o : Nat → Int × Int) (p q : Int) (w : World) (hv : Rd w 3 v n (srd d (osn o n))) (hn : n ≤ 400) (r : Int) (hr : fnI o (p, q) n = r) :
    Calls Tryd.prog 122 #[v, .agg #[.int .i64 p, .int .i64 d, .int .i64 q]] w (Ret w (.int .i64 r)) := by
  obtain ⟨A, c, rfl, hn1, hc1, _, hr1⟩ := hv
  have R1 := Lib.hid hr1
  have HR := Lib.hid hr
  clear hr1 hr
  go_enter Tryd.func122, Tryd.ntmps122
  go_wp2_with fail
  go_loopg [5] n (FindR (w.alloc (.cells #[.int .i64 p, .int .i64 d, .int .i64 q] 28)) o (p, q) n)
  case atStart => exact ⟨0, by omega, by omega, rfl, by omega, Below.refl _ _⟩
  case round =>
    obtain ⟨j, hj1, hj2, rfl, hall, hbw⟩ := hrel
    have HA := Lib.hid hall
    clear hall
    have hs := hbw.size
    rw [World.size_alloc] at hs
    by_cases hjn : j < n
    · have hy := osn_get o n j hjn
      generalize hoj : o j = y at *
      obtain ⟨y1, y2⟩ := y
      rcases R1.out with h0 | ⟨g, of, rfl, hg, hcell⟩
      · omega
      have c1 : wr.cell? ⟨g, of + j * 3, none⟩ = some (.int .i64 y1) := (hbw.cell (p := ⟨g, of + j * 3, none⟩) (by rw [World.size_alloc]; simp; omega)).trans ((World.cell?_alloc_lt w _ _ (by simpa using hg)).trans (hcell (j * 3) _ (srd_get hy).1))
      have c2 : wr.cell? ⟨g, of + j * 3 + 1, none⟩ = some (.int .i64 d) := (hbw.cell (p := ⟨g, of + j * 3 + 1, none⟩) (by rw [World.size_alloc]; simp; omega)).trans ((World.cell?_alloc_lt w _ _ (by simpa using hg)).trans (hcell (j * 3 + 1) _ (srd_get hy).2.1))
      have c3 : wr.cell? ⟨g, of + j * 3 + 2, none⟩ = some (.int .i64 y2) := (hbw.cell (p := ⟨g, of + j * 3 + 2, none⟩) (by rw [World.size_alloc]; simp; omega)).trans ((World.cell?_alloc_lt w _ _ (by simpa using hg)).trans (hcell (j * 3 + 2) _ (srd_get hy).2.2))
      have hP := (Blk.new w 28 #[.int .i64 p, .int .i64 d, .int .i64 q]).below hbw (by simp)
      have c4 : wr.cell? ⟨w.heap.size, 0, none⟩ = some (.int .i64 p) := hP.cell 0
      have c5 : wr.cell? ⟨w.heap.size, 1, none⟩ = some (.int .i64 d) := hP.cell 1
      have c6 : wr.cell? ⟨w.heap.size, 2, none⟩ = some (.int .i64 q) := hP.cell 2
      have hgw : g < wr.heap.size := by omega
      have hpw : w.heap.size < wr.heap.size := by omega
      have hjn' : (j : Int) < (n : Int) := by omega
      have HY := Lib.hid hoj
      clear hy hcell R1 hP hoj
      have hq1 := run_guardS .eql
      cases he : (y1 == p && (d == d && y2 == q))
      · have E := Lib.hid he
        have hq := run_eqS y1 d y2 p d q false he
        clear he
        go_wp2_with fail
        refine wp_region_calm (by kernel_rfl) (by kernel_rfl) ?_
        repeat (go_big_quiet_step ((fail)))
        refine wpQuiet_nil ?_
        intro w1 hb_w1
        obtain ⟨hc_w1, hf_w1, hs_w1⟩ := bcell hb_w1
        try simp at hs_w1
        go_wp2
        go_roundg (gk - 1)
        case measure => omega
        case rel =>
          refine ⟨j + 1, by omega, by omega, by go_num, ?_, bthen hbw hb_w1 hbw.size⟩
          intro t ht
          by_cases e : t = j
          · subst e
            rw [HY.out]
            intro e
            have := E.out
            injection e with e1 e2
            subst e1 e2
            simp at this
          · exact HA.out t (by omega)
      · have hq := run_eqS y1 d y2 p d q true he
        have e1 : fnI o (p, q) n = (j : Int) := by
          unfold fnI
          rw [fn_hit hjn (by
            rw [HY.out]
            simp only [Bool.and_eq_true, beq_iff_eq] at he
            rw [he.1, he.2.2]) HA.out]
        obtain rfl : (j : Int) = r := by rw [← HR.out, e1]
        clear he e1 HR
        go_wp2_with fail
        refine wp_region_calm (by kernel_rfl) (by kernel_rfl) ?_
        repeat (go_big_quiet_step ((fail)))
        refine wpQuiet_nil ?_
        intro w1 hb_w1
        obtain ⟨hc_w1, hf_w1, hs_w1⟩ := bcell hb_w1
        try simp at hs_w1
        go_wp2
        go_ret
        refine ⟨by first | rfl | (simp), ?_⟩
        repeat' (first | (with_reducible exact Below.refl _ _) | (with_reducible assumption) | (with_reducible refine Below.alloc ?_ ?_ _) | (with_reducible refine Below.drew ?_) | (with_reducible refine bdrewN ?_ _) | (with_reducible refine Below.setCell ?_ ?_ _) | (with_reducible refine bthen ?_ (by assumption) ?_) | go_size)
    · have e1 : fnI o (p, q) n = -1 := by unfold fnI; rw [fn_miss (fun t ht => HA.out t (by omega))]
      obtain rfl : -1 = r := by rw [← HR.out, e1]
      clear e1 HR
      go_wp2
      go_ret
      refine ⟨by first | rfl | (simp), ?_⟩
      repeat' (first | (with_reducible exact Below.refl _ _) | (with_reducible assumption) | (with_reducible refine Below.alloc ?_ ?_ _) | (with_reducible refine Below.drew ?_) | (with_reducible refine bdrewN ?_ _) | (with_reducible refine Below.setCell ?_ ?_ _) | (with_reducible refine bthen ?_ (by assumption) ?_) | go_size)
end Go.Proofs.YtibbokllongomaaDoor
