/-
  Which one of all solutions a pair is: both packages' loops.
-/
import Derived.Test.YtkjakgemjhbfoaaUnq
import Derived.Test.YtkjakgemjhbfoaaPairs2
import Derived.Laws.StructEq
import Derived.ChangeKeysEq
namespace Go.Proofs.Ytkjakgemjhbfoaa
open Go.RowKit

theorem Try.fieldsP : Try.prog.underlying 26 = some (.struct (Try.prog.fieldsOf 26)) := by kernel_rfl
theorem Try.listP : (Try.prog.fieldsOf 26).toList.map (fun f => (f.name, f.type, f.offset)) = [("X", 2, 0), ("Y", 2, 1)] := by kernel_rfl
theorem Try.heldP : Try.prog.stoodInHeld 26 = false := by kernel_rfl
theorem Try.guardP : Try.prog.eqGuardType Try.prog.depth 26 = false := by kernel_rfl
theorem Try.plainI2 : Try.prog.plainKey 2 = true := by kernel_rfl
theorem fields2 {P : Program} {s t : TypeId} {x y : String} (hl : (P.fieldsOf s).toList.map (fun f => (f.name, f.type, f.offset)) = [(x, t, 0), (y, t, 1)]) : ∃ f1 f2, (P.fieldsOf s).toList = [f1, f2] ∧ (f1.name = x ∧ f2.name = y) ∧ (f1.type = t ∧ f2.type = t) ∧ f1.offset = 0 ∧ f2.offset = 1 := by
  generalize (P.fieldsOf s).toList = l at *
  have h3 : l.length = 2 := by have := congrArg List.length hl; simpa using this
  obtain ⟨f1, r1, rfl⟩ := List.exists_cons_of_length_pos (show 0 < l.length by omega)
  obtain ⟨f2, r2, rfl⟩ := List.exists_cons_of_length_pos (show 0 < r1.length by simp at h3; omega)
  obtain rfl : r2 = [] := List.eq_nil_of_length_eq_zero (by simpa using h3)
  simp only [List.map_cons, List.map_nil, List.cons.injEq, Prod.mk.injEq, and_true] at hl
  obtain ⟨⟨a1, a2, a3⟩, b1, b2, b3⟩ := hl
  exact ⟨f1, f2, rfl, ⟨a1, b1⟩, ⟨a2, b2⟩, a3, b3⟩
theorem run_guardP (op : BinOp) (x y : Operand) (xs ys : Array Value) (w : World) : (eqGuard op 26 x y (.agg xs) (.agg ys)).run Try.prog w = .ok () w := run_eqGuard_agg w op _ x y xs ys Try.guardP
theorem run_eqFields2 {P : Program} {t : TypeId} {k : IntKind} (ht : P.underlying t = some (.int k)) (hk : P.plainKey t = true) {f1 f2 : Field} (n1 : f1.name ≠ "_") (n2 : f2.name ≠ "_") (t1 : f1.type = t) (t2 : f2.type = t) (o1 : f1.offset = 0) (o2 : f2.offset = 1) (m : Nat) (a b d e : Int) (w : World) :
    (Op.eqFields (m + 1) #[.int k a, .int k b] #[.int k d, .int k e] [f1, f2]).run P w = .ok (a == d && b == e) w := by
  have p0 : ∀ x y : Int, (part t #[.int k x, .int k y] 0).run P w = .ok (.int k x) w := fun x y => run_part_plain (P := P) (w := w) hk rfl
  have p1 : ∀ x y : Int, (part t #[.int k x, .int k y] 1).run P w = .ok (.int k y) w := fun x y => run_part_plain (P := P) (w := w) hk rfl
  have q := fun x y : Int => run_equalIn_int (P := P) w m t k k x y ht
  simp only [Op.eqFields, n1, n2, t1, t2, o1, o2, ne_eq, not_false_eq_true, if_true, Sem.run_bind, p0, p1, q, Result.andThen_ok, Sem.run_ite, Sem.run_pure]
  cases a == d <;> cases b == e <;> rfl
theorem run_eqP (a b d e : Int) (r : Bool) (hr : (a == d && b == e) = r) (w : World) : (binOp .eql 26 (.agg #[.int .i64 a, .int .i64 b]) (.agg #[.int .i64 d, .int .i64 e])).run Try.prog w = .ok (.bool r) w := by
  rw [run_eql_struct, run_equalIn_struct (P := Try.prog) w 9999 26 _ _ Try.fieldsP Try.heldP]
  obtain ⟨f1, f2, hl, ⟨n1, n2⟩, ⟨t1, t2⟩, o1, o2⟩ := fields2 Try.listP
  subst hr
  rw [hl, run_eqFields2 Try.underlying2 Try.plainI2 (by rw [n1]; decide) (by rw [n2]; decide) t1 t2 o1 o2 9998]
  rfl
theorem run_neP (a b d e : Int) (r : Bool) (hr : (!(a == d && b == e)) = r) (w : World) : (binOp .neq 26 (.agg #[.int .i64 a, .int .i64 b]) (.agg #[.int .i64 d, .int .i64 e])).run Try.prog w = .ok (.bool r) w := by
  rw [run_neq_struct, run_equalIn_struct (P := Try.prog) w 9999 26 _ _ Try.fieldsP Try.heldP]
  obtain ⟨f1, f2, hl, ⟨n1, n2⟩, ⟨t1, t2⟩, o1, o2⟩ := fields2 Try.listP
  subst hr
  rw [hl, run_eqFields2 Try.underlying2 Try.plainI2 (by rw [n1]; decide) (by rw [n2]; decide) t1 t2 o1 o2 9998]
  rfl
theorem eqP_false {a b d e : Int} (h : b ≠ e) : (a == d && b == e) = false := by
  rw [Bool.and_eq_false_iff]; right; simpa using h
theorem eqP_true (a b : Int) : (a == a && b == b) = true := by simp
/-- The solution's number among all, and all ahead of it are plain. -/
structure SolN (d x y : Int) (n : Nat) : Prop where
  pc : pcM d x y = 0
  hit : (ppS d (lsX d (perN d)) (lsY d (perN d)) (lsB d (perN d)) n).1 = (x, y)
  ok : ∀ t, t ≤ n → (ppS d (lsX d (perN d)) (lsY d (perN d)) (lsB d (perN d)) t).2 = true
theorem sol_of {d x y : Int} (h : pcM d x y = 0) (hN : nmV d x y = 1) (hx : 1 ≤ x) (hy : 1 ≤ y) : ∃ n, SolN d x y n := by
  obtain ⟨_, h1, h2⟩ := pc_zero h
  obtain ⟨n, _, a, b⟩ := pp_hit h1 hx hy hN h2
  exact ⟨n, h, a, b⟩
theorem SolN.facts {d x y : Int} {n : Nat} (S : SolN d x y n) : (2 ≤ d ∧ d ≤ 10000) ∧ pdM d = 0 ∧ okP d x y = true ∧ nmV d x y = 1 ∧ 1 ≤ x ∧ 1 ≤ y ∧ (n : Int) + 1 ≤ y := by
  obtain ⟨h0, h1, h2⟩ := pc_zero S.pc
  obtain ⟨s1, s2, s3⟩ := pp_sol h1 (lsB d (perN d)) n
  have m := pp_mono h1 (lsB d (perN d)) 0 n
  rw [Nat.zero_add] at m
  obtain ⟨_, _, s4⟩ := pp_sol h1 (lsB d (perN d)) 0
  rw [S.hit] at s1 s2 s3 m
  exact ⟨h0, h1, h2, s1, s2, s3, by simp only at m; omega⟩
/-- What a round of the loops uses of the solutions: the t-th one, the next one, whether both are plain. -/
theorem pp_round {d : Int} (h : pdM d = 0) (b : Bool) (t : Nat) : ∃ x y x' y' : Int, ∃ o : Bool, (ppS d (lsX d (perN d)) (lsY d (perN d)) b t).1 = (x, y) ∧ (ppS d (lsX d (perN d)) (lsY d (perN d)) b (t + 1)).1 = (x', y') ∧
    x' = mxP d x y (lsX d (perN d)) (lsY d (perN d)) ∧ y' = myP x y (lsX d (perN d)) (lsY d (perN d)) ∧ (ppS d (lsX d (perN d)) (lsY d (perN d)) b (t + 1)).2 = ((ppS d (lsX d (perN d)) (lsY d (perN d)) b t).2 && o) ∧ o = (fitP d y (lsY d (perN d)) && okP d x' y') ∧ y < y' ∧ 1 ≤ x ∧ 1 ≤ y ∧ nmV d x y = 1 := by
  obtain ⟨s1, s2, s3⟩ := pp_sol h b t
  exact ⟨_, _, _, _, _, rfl, rfl, rfl, rfl, rfl, rfl, pp_up h b t, s2, s3, s1⟩
def PiR (w : World) (d X Y : Int) (b : Bool) (px py : Int) (n gl : Nat) (k : Nat) (vb vk vp : Value) (wr : World) : Prop :=
  ∃ (t g : Nat) (x y x0 y0 : Int), (t ≤ n ∧ n ≤ t + k) ∧ vb = .bool (ppS d X Y b t).2 ∧ vk = .int .i64 ((t : Int) + 1) ∧ vp = .pointer (some ⟨g, 0, none⟩) ∧ ((ppS d X Y b t).2 = true → (ppS d X Y b t).1 = (x, y)) ∧ (b = true → x0 = X ∧ y0 = Y) ∧
    Blk wr g 26 #[.int .i64 x, .int .i64 y] ∧ Blk wr gl 26 #[.int .i64 x0, .int .i64 y0] ∧ Blk wr w.heap.size 26 #[.int .i64 px, .int .i64 py] ∧ Below w.heap.size w wr ∧ (w.heap.size < gl ∧ gl ≠ g ∧ w.heap.size < g)
set_option maxRecDepth 100000 in
set_option maxHeartbeats 4000000 in
theorem pellIndexI_sol (d x y : Int) (n : Nat) (S : SolN d x y n) (w : World) : Calls Try.prog 17 #[.int .i64 d, .agg #[.int .i64 x, .int .i64 y]] w (Ret w (.tuple #[.int .i64 ((n : Int) + 1), .int .i64 0])) := by
  obtain ⟨⟨h1, h2⟩, hpd, hok, hnm, hx1, hy1, hny⟩ := S.facts
  have hb := okP_bd h1 h2 hok
  have hone : _ = pcM d x y := pc_one d (fun _ => x) (fun _ => y) 1 rfl
  rw [S.pc] at hone
  have H := Lib.hid hone
  have kL := fun w => leastPell_any d hpd w
  have hall := S.ok
  have hhit := S.hit
  have hB : lsB d (perN d) = true := hall 0 (by omega)
  have hokL := ls_ok hB
  have hround := fun t => pp_round hpd (lsB d (perN d)) t
  have hokt := fun k => pp_ok (d := d) (X := lsX d (perN d)) (Y := lsY d (perN d)) (b := lsB d (perN d)) (fun hb => ls_ok hb) k
  have hmono := fun t k => pp_mono hpd (lsB d (perN d)) t k
  have hy2 : y ≤ 1000000000 := hb.2.1.2
  unfold LeastP at kL
  rw [hB] at kL hall hhit hround hokt hmono
  generalize lsX d (perN d) = X at *
  generalize lsY d (perN d) = Y at *
  have HALL := Lib.hid hall
  have HHIT := Lib.hid hhit
  have HR := Lib.hid hround
  have HOK := Lib.hid hokt
  have HM := Lib.hid hmono
  have HOKL := Lib.hid hokL
  clear hone hall hhit hround hokt hokL hB hb hok hnm hmono S hpd
  go_enter Try.func17, Try.ntmps17
  go_wp2_with fail
  apply Calls.mono
  · with_reducible exact checkPell_any _ 1 1 _ (fun _ => x) (fun _ => y) (by omega) (by omega) (by omega) _ (by simp) (by intro j hj; obtain rfl : j = 0 := (by omega); exact ⟨by simp, by simp⟩) 0 H.out
  rintro _ w1 ⟨rfl, hb_w1⟩
  obtain ⟨hc_w1, hf_w1, hs_w1⟩ := bcell hb_w1
  try simp at hs_w1
  have hz_w1_w0 : w.heap.size < w1.heap.size := by omega
  have hy_w1_w0 : w.heap.size ≤ w1.heap.size := by omega
  have hx_w1_w0 : ∀ n : Nat, w.heap.size < w1.heap.size + n := by intro n; omega
  have hv_w1_w0 : ∀ n : Nat, w.heap.size ≤ w1.heap.size + n := by intro n; omega
  have hz_w1_w1 : w.heap.size + 1 < w1.heap.size := by omega
  have hy_w1_w1 : w.heap.size + 1 ≤ w1.heap.size := by omega
  have hx_w1_w1 : ∀ n : Nat, w.heap.size + 1 < w1.heap.size + n := by intro n; omega
  have hv_w1_w1 : ∀ n : Nat, w.heap.size + 1 ≤ w1.heap.size + n := by intro n; omega
  go_wp2_with fail
  apply Calls.mono
  · with_reducible exact kL _
  rintro _ w2 ⟨x0, y0, rfl, hxy, hb_w2⟩
  obtain ⟨rfl, rfl⟩ := hxy trivial
  have q1 := hb_w1.size
  have q2 := hb_w2.size
  rw [World.size_alloc, World.size_alloc] at q1
  have hP := (((Blk.new w 26 #[.int .i64 x, .int .i64 y]).alloc (.cells #[.int .i64 x, .int .i64 y] 26)).below hb_w1 (by simp; omega)).below hb_w2 (by omega)
  have bel0 : Below w.heap.size w w2 := by repeat' (first | (with_reducible exact Below.refl _ _) | (with_reducible assumption) | (with_reducible refine Below.alloc ?_ ?_ _) | (with_reducible refine Below.drew ?_) | (with_reducible refine bdrewN ?_ _) | (with_reducible refine Below.setCell ?_ ?_ _) | (with_reducible refine bthen ?_ (by assumption) ?_) | go_size)
  clear hc_w1 hf_w1 kL
  go_wp2_with fail
  go_loopg [8, 9, 10] n (PiR w d x0 y0 true x y n w2.heap.size)
  case atStart =>
    refine ⟨0, w2.heap.size + 1, x0, y0, x0, y0, ⟨by omega, by omega⟩, rfl, rfl, rfl, fun _ => rfl, fun _ => ⟨rfl, rfl⟩, ?_, (Blk.new w2 _ _).alloc _, (hP.alloc _).alloc _, (bel0.alloc (by omega) _).alloc (by rw [World.size_alloc]; omega) _, by omega, by omega, by omega⟩
    have hb := Blk.new (w2.alloc (.cells #[.int .i64 x0, .int .i64 y0] 26)) 26 #[.int .i64 x0, .int .i64 y0]
    rw [World.size_alloc] at hb
    exact hb
  case round =>
    obtain ⟨t, g, xt, yt, x1, y1, ⟨ht1, ht2⟩, rfl, rfl, rfl, hx, hx0, hG, hL, hP, hbw, hgl, hgne, hg⟩ := hrel
    obtain ⟨rfl, rfl⟩ := hx0 rfl
    have qr := hbw.size
    have lG := hG.lt
    have lL := hL.lt
    have lP := hP.lt
    have hst := HALL.out t ht1
    have hxt := hx hst
    rw [hst]
    have c1 : wr.cell? ⟨g, 0, none⟩ = some (.int .i64 xt) := hG.cell 0
    have c2 : wr.cell? ⟨g, 1, none⟩ = some (.int .i64 yt) := hG.cell 1
    have c3 : wr.cell? ⟨w.heap.size, 0, none⟩ = some (.int .i64 x) := hP.cell 0
    have c4 : wr.cell? ⟨w.heap.size, 1, none⟩ = some (.int .i64 y) := hP.cell 1
    have hq1 := run_guardP .eql
    by_cases htn : t < n
    · obtain ⟨xa, ya, xb, yb, o, r1, r2, r3, r4, r5, r6, r7, r8, r9, r10⟩ := HR.out t
      obtain ⟨rfl, rfl⟩ : xa = xt ∧ ya = yt := by rw [r1] at hxt; exact ⟨(Prod.mk.inj hxt).1, (Prod.mk.inj hxt).2⟩
      have hm := HM.out (t + 1) (n - (t + 1))
      rw [show t + 1 + (n - (t + 1)) = n by omega, HHIT.out, r2] at hm
      simp only at hm
      have hle : ya ≤ y := by omega
      have hq := run_eqP xa ya x y false (eqP_false (by omega))
      have hok1 := HOK.out t hst
      rw [r1] at hok1
      have kM := fun w => mulPairs_any d _ _ _ _ h1 h2 hok1 HOKL.out w
      have hst2 := HALL.out (t + 1) (by omega)
      have ho : (fitP d ya y1 && okP d (mxP d xa ya x1 y1) (myP xa ya x1 y1)) = true := by
        rw [← r3, ← r4, ← r6]
        rw [r5, hst, Bool.true_and] at hst2
        exact hst2
      rw [ho] at kM
      simp only [if_true] at kM
      rw [← r3, ← r4] at kM
      have hx9 : ya ≤ 1000000000 := by omega
      have htb : (t : Int) ≤ 1000000000 := by omega
      have R2 := Lib.hid r2
      have ST2 := Lib.hid hst2
      clear r1 r2 r3 r4 r5 r6 hx hxt hst hst2 ho hok1 hm hx0
      have KN : ∀ w6, Below (wr.alloc (.cells #[.int .i64 xa, .int .i64 ya] 26)).heap.size (wr.alloc (.cells #[.int .i64 xa, .int .i64 ya] 26)) w6 → Blk w6 wr.heap.size 26 #[.int .i64 xa, .int .i64 ya] ∧ Blk w6 w2.heap.size 26 #[.int .i64 x1, .int .i64 y1] ∧ Blk w6 w.heap.size 26 #[.int .i64 x, .int .i64 y] ∧ Below w.heap.size w w6 ∧ wr.heap.size < w6.heap.size := fun w6 hb6 => by
        have hs := hb6.size
        rw [World.size_alloc] at hs
        exact ⟨(Blk.new wr _ _).below hb6 (by rw [World.size_alloc]; omega), (hL.alloc _).below hb6 (by rw [World.size_alloc]; omega), (hP.alloc _).below hb6 (by rw [World.size_alloc]; omega), bthen (hbw.alloc qr _) hb6 (by rw [World.size_alloc]; omega), by omega⟩
      have c5 : wr.cell? ⟨w2.heap.size, 0, none⟩ = some (.int .i64 x1) := hL.cell 0
      have c6 : wr.cell? ⟨w2.heap.size, 1, none⟩ = some (.int .i64 y1) := hL.cell 1
      go_wp2_with fail
      apply Calls.mono
      · with_reducible exact kM _
      rintro _ w6 ⟨rfl, hb_w6⟩
      obtain ⟨f1, f2, f3, f4, f5⟩ := KN w6 hb_w6
      have n1 : w6.cell? ⟨wr.heap.size, 0, none⟩ = some (.int .i64 xa) := f1.cell 0
      have n2 : w6.cell? ⟨wr.heap.size, 1, none⟩ = some (.int .i64 ya) := f1.cell 1
      have n3 : w6.frozen? ⟨wr.heap.size, 0, none⟩ = false := f1.frozen 0
      have n4 : w6.frozen? ⟨wr.heap.size, 1, none⟩ = false := f1.frozen 1
      go_wp2
      go_roundg (gk - 1)
      case measure => omega
      case rel =>
        refine ⟨t + 1, wr.heap.size, xb, yb, x1, y1, ⟨by omega, by omega⟩, ?_, by go_num, rfl, fun _ => R2.out, fun _ => ⟨rfl, rfl⟩, f1.set2 _ _, ?_, ?_, ?_, by omega, by omega, by omega⟩
        · rw [ST2.out]
        · exact (f2.far (p := ⟨wr.heap.size, 0, none⟩) (by simp; omega) _).far (p := ⟨wr.heap.size, 1, none⟩) (by simp; omega) _
        · exact (f3.far (p := ⟨wr.heap.size, 0, none⟩) (by simp; omega) _).far (p := ⟨wr.heap.size, 1, none⟩) (by simp; omega) _
        · exact (f4.setCell (p := ⟨wr.heap.size, 0, none⟩) (by simp; omega) _).setCell (p := ⟨wr.heap.size, 1, none⟩) (by simp; omega) _
    · obtain rfl : t = n := by omega
      obtain ⟨rfl, rfl⟩ : xt = x ∧ yt = y := by rw [HHIT.out] at hxt; exact ⟨(Prod.mk.inj hxt).1.symm, (Prod.mk.inj hxt).2.symm⟩
      have hq := run_eqP xt yt xt yt true (eqP_true _ _)
      clear hx hxt hst hx0
      go_wp2
      go_ret2
      exact ⟨rfl, hbw⟩
set_option maxRecDepth 100000 in
set_option maxHeartbeats 4000000 in
theorem pellIndexI_no (d x y : Int) (hpc : pcM d x y = 0) (hno : ¬ (nmV d x y = 1 ∧ 1 ≤ x ∧ 1 ≤ y)) (w : World) : Calls Try.prog 17 #[.int .i64 d, .agg #[.int .i64 x, .int .i64 y]] w (Ret w (.tuple #[.int .i64 0, .int .i64 3])) := by
  obtain ⟨⟨h1, h2⟩, hpd, hok⟩ := pc_zero hpc
  have hb := okP_bd h1 h2 hok
  have hone : _ = pcM d x y := pc_one d (fun _ => x) (fun _ => y) 1 rfl
  rw [hpc] at hone
  have H := Lib.hid hone
  have kL := fun w => leastPell_any d hpd w
  have hokL : lsB d (perN d) = true → okP d (lsX d (perN d)) (lsY d (perN d)) = true := fun hb => ls_ok hb
  have hround := fun t => pp_round hpd (lsB d (perN d)) t
  have hokt := fun k => pp_ok (d := d) (X := lsX d (perN d)) (Y := lsY d (perN d)) (b := lsB d (perN d)) (fun hb => ls_ok hb) k
  have hmono := fun t k => pp_mono hpd (lsB d (perN d)) t k
  have hy0 : 1 ≤ lsY d (perN d) := (pp_sol hpd true 0).2.2
  have hy2 : y ≤ 1000000000 := hb.2.1.2
  unfold LeastP at kL
  generalize lsX d (perN d) = X at *
  generalize lsY d (perN d) = Y at *
  generalize lsB d (perN d) = b at *
  have HR := Lib.hid hround
  have HOK := Lib.hid hokt
  have HM := Lib.hid hmono
  have HOKL := Lib.hid hokL
  have HNO := Lib.hid hno
  clear hone hround hokt hokL hb hok hmono hpd hpc hno
  go_enter Try.func17, Try.ntmps17
  go_wp2_with fail
  apply Calls.mono
  · with_reducible exact checkPell_any _ 1 1 _ (fun _ => x) (fun _ => y) (by omega) (by omega) (by omega) _ (by simp) (by intro j hj; obtain rfl : j = 0 := (by omega); exact ⟨by simp, by simp⟩) 0 H.out
  rintro _ w1 ⟨rfl, hb_w1⟩
  obtain ⟨hc_w1, hf_w1, hs_w1⟩ := bcell hb_w1
  try simp at hs_w1
  have hz_w1_w0 : w.heap.size < w1.heap.size := by omega
  have hy_w1_w0 : w.heap.size ≤ w1.heap.size := by omega
  have hx_w1_w0 : ∀ n : Nat, w.heap.size < w1.heap.size + n := by intro n; omega
  have hv_w1_w0 : ∀ n : Nat, w.heap.size ≤ w1.heap.size + n := by intro n; omega
  have hz_w1_w1 : w.heap.size + 1 < w1.heap.size := by omega
  have hy_w1_w1 : w.heap.size + 1 ≤ w1.heap.size := by omega
  have hx_w1_w1 : ∀ n : Nat, w.heap.size + 1 < w1.heap.size + n := by intro n; omega
  have hv_w1_w1 : ∀ n : Nat, w.heap.size + 1 ≤ w1.heap.size + n := by intro n; omega
  go_wp2_with fail
  apply Calls.mono
  · with_reducible exact kL _
  rintro _ w2 ⟨x0, y0, rfl, hxy, hb_w2⟩
  have q1 := hb_w1.size
  have q2 := hb_w2.size
  rw [World.size_alloc, World.size_alloc] at q1
  have hP := (((Blk.new w 26 #[.int .i64 x, .int .i64 y]).alloc (.cells #[.int .i64 x, .int .i64 y] 26)).below hb_w1 (by simp; omega)).below hb_w2 (by omega)
  have bel0 : Below w.heap.size w w2 := by repeat' (first | (with_reducible exact Below.refl _ _) | (with_reducible assumption) | (with_reducible refine Below.alloc ?_ ?_ _) | (with_reducible refine Below.drew ?_) | (with_reducible refine bdrewN ?_ _) | (with_reducible refine Below.setCell ?_ ?_ _) | (with_reducible refine bthen ?_ (by assumption) ?_) | go_size)
  have HXY := Lib.hid hxy
  clear hc_w1 hf_w1 kL hxy
  go_wp2_with fail
  go_loopg [8, 9, 10] 1000000001 (PiR w d X Y b x y 1000000001 w2.heap.size)
  case atStart =>
    refine ⟨0, w2.heap.size + 1, x0, y0, x0, y0, ⟨by omega, by omega⟩, rfl, rfl, rfl, ?_, ?_, ?_, (Blk.new w2 _ _).alloc _, (hP.alloc _).alloc _, (bel0.alloc (by omega) _).alloc (by rw [World.size_alloc]; omega) _, by omega, by omega, by omega⟩
    · intro hh
      obtain ⟨rfl, rfl⟩ := HXY.out hh
      rfl
    · exact HXY.out
    · have hb := Blk.new (w2.alloc (.cells #[.int .i64 x0, .int .i64 y0] 26)) 26 #[.int .i64 x0, .int .i64 y0]
      rw [World.size_alloc] at hb
      exact hb
  case round =>
    obtain ⟨t, g, xt, yt, x1, y1, ⟨ht1, ht2⟩, rfl, rfl, rfl, hx, hx0, hG, hL, hP, hbw, hgl, hgne, hg⟩ := hrel
    have qr := hbw.size
    have lG := hG.lt
    have lL := hL.lt
    have lP := hP.lt
    have c1 : wr.cell? ⟨g, 0, none⟩ = some (.int .i64 xt) := hG.cell 0
    have c2 : wr.cell? ⟨g, 1, none⟩ = some (.int .i64 yt) := hG.cell 1
    have c3 : wr.cell? ⟨w.heap.size, 0, none⟩ = some (.int .i64 x) := hP.cell 0
    have c4 : wr.cell? ⟨w.heap.size, 1, none⟩ = some (.int .i64 y) := hP.cell 1
    have hq1 := run_guardP .eql
    cases hst : (ppS d X Y b t).2
    · clear hx hx0 hst HXY
      go_wp2
      go_ret2
      exact ⟨rfl, hbw⟩
    · have hxt := hx hst
      by_cases hle : yt ≤ y
      · obtain ⟨xa, ya, xb, yb, o, r1, r2, r3, r4, r5, r6, r7, r8, r9, r10⟩ := HR.out t
        obtain ⟨rfl, rfl⟩ : xa = xt ∧ ya = yt := by rw [r1] at hxt; exact ⟨(Prod.mk.inj hxt).1, (Prod.mk.inj hxt).2⟩
        have hbt : b = true := by
          cases hb : b
          · have := pp_stop (d := d) (X := X) (Y := Y) (b := b) (k := 0) hb t (by omega)
            rw [this] at hst; cases hst
          · rfl
        obtain ⟨rfl, rfl⟩ := hx0 hbt
        have hne : (xa == x && ya == y) = false := by
          cases he : (xa == x && ya == y)
          · rfl
          · exfalso
            rw [Bool.and_eq_true, beq_iff_eq, beq_iff_eq] at he
            exact HNO.out ⟨by rw [← he.1, ← he.2]; exact r10, by rw [← he.1]; exact r8, by rw [← he.2]; exact r9⟩
        have hq := run_eqP xa ya x y false hne
        have hok1 := HOK.out t hst
        rw [r1] at hok1
        have kM := fun w => mulPairs_any d _ _ _ _ h1 h2 hok1 (HOKL.out hbt) w
        have hm := HM.out 0 t
        rw [Nat.zero_add, r1] at hm
        have e0 : (ppS d x1 y1 b 0).1.2 = y1 := rfl
        rw [e0] at hm
        simp only at hm
        simp only at kM
        rw [← r3, ← r4, ← r6] at kM
        obtain ⟨mx', hmx'⟩ : ∃ z, (if o then xb else 0) = z := ⟨_, rfl⟩
        obtain ⟨my', hmy'⟩ : ∃ z, (if o then yb else 0) = z := ⟨_, rfl⟩
        rw [hmx', hmy'] at kM
        have MX := Lib.hid hmx'
        have MY := Lib.hid hmy'
        have hst2 : (ppS d x1 y1 b (t + 1)).2 = o := by rw [r5, hst, Bool.true_and]
        have hx9 : ya ≤ 1000000000 := by omega
        have htb : (t : Int) ≤ 1000000000 := by omega
        have R2 := Lib.hid r2
        have ST2 := Lib.hid hst2
        clear r1 r2 r3 r4 r5 r6 hx hxt hst hst2 hok1 hm hx0 hne e0 hmx' hmy' HXY hbt
        have KN : ∀ w6, Below (wr.alloc (.cells #[.int .i64 xa, .int .i64 ya] 26)).heap.size (wr.alloc (.cells #[.int .i64 xa, .int .i64 ya] 26)) w6 → Blk w6 wr.heap.size 26 #[.int .i64 xa, .int .i64 ya] ∧ Blk w6 w2.heap.size 26 #[.int .i64 x1, .int .i64 y1] ∧ Blk w6 w.heap.size 26 #[.int .i64 x, .int .i64 y] ∧ Below w.heap.size w w6 ∧ wr.heap.size < w6.heap.size := fun w6 hb6 => by
          have hs := hb6.size
          rw [World.size_alloc] at hs
          exact ⟨(Blk.new wr _ _).below hb6 (by rw [World.size_alloc]; omega), (hL.alloc _).below hb6 (by rw [World.size_alloc]; omega), (hP.alloc _).below hb6 (by rw [World.size_alloc]; omega), bthen (hbw.alloc qr _) hb6 (by rw [World.size_alloc]; omega), by omega⟩
        have c5 : wr.cell? ⟨w2.heap.size, 0, none⟩ = some (.int .i64 x1) := hL.cell 0
        have c6 : wr.cell? ⟨w2.heap.size, 1, none⟩ = some (.int .i64 y1) := hL.cell 1
        go_wp2_with fail
        apply Calls.mono
        · with_reducible exact kM _
        rintro _ w6 ⟨rfl, hb_w6⟩
        obtain ⟨f1, f2, f3, f4, f5⟩ := KN w6 hb_w6
        have n1 : w6.cell? ⟨wr.heap.size, 0, none⟩ = some (.int .i64 xa) := f1.cell 0
        have n2 : w6.cell? ⟨wr.heap.size, 1, none⟩ = some (.int .i64 ya) := f1.cell 1
        have n3 : w6.frozen? ⟨wr.heap.size, 0, none⟩ = false := f1.frozen 0
        have n4 : w6.frozen? ⟨wr.heap.size, 1, none⟩ = false := f1.frozen 1
        go_wp2
        go_roundg (gk - 1)
        case measure => omega
        case rel =>
          refine ⟨t + 1, wr.heap.size, mx', my', x1, y1, ⟨by omega, by omega⟩, ?_, by go_num, rfl, ?_, fun _ => ⟨rfl, rfl⟩, f1.set2 _ _, ?_, ?_, ?_, by omega, by omega, by omega⟩
          · rw [ST2.out]
          · intro hh
            rw [ST2.out] at hh
            rw [R2.out, ← MX.out, ← MY.out, hh]
            rfl
          · exact (f2.far (p := ⟨wr.heap.size, 0, none⟩) (by simp; omega) _).far (p := ⟨wr.heap.size, 1, none⟩) (by simp; omega) _
          · exact (f3.far (p := ⟨wr.heap.size, 0, none⟩) (by simp; omega) _).far (p := ⟨wr.heap.size, 1, none⟩) (by simp; omega) _
          · exact (f4.setCell (p := ⟨wr.heap.size, 0, none⟩) (by simp; omega) _).setCell (p := ⟨wr.heap.size, 1, none⟩) (by simp; omega) _
      · clear hx hx0 hst HXY hxt
        go_wp2
        go_ret2
        exact ⟨rfl, hbw⟩
theorem pellIndexI_bad (d x y c : Int) (hpc : pcM d x y = c) (hc : c ≠ 0) (w : World) : Calls Try.prog 17 #[.int .i64 d, .agg #[.int .i64 x, .int .i64 y]] w (Ret w (.tuple #[.int .i64 0, .int .i64 c])) := by
  have hone : _ = pcM d x y := pc_one d (fun _ => x) (fun _ => y) 1 rfl
  rw [hpc] at hone
  have H := Lib.hid hone
  have hne : (c != 0) = true := by simpa using hc
  clear hone hpc hc
  go_enter Try.func17, Try.ntmps17
  go_wp2_with fail
  apply Calls.mono
  · with_reducible exact checkPell_any _ 1 1 _ (fun _ => x) (fun _ => y) (by omega) (by omega) (by omega) _ (by simp) (by intro j hj; obtain rfl : j = 0 := (by omega); exact ⟨by simp, by simp⟩) c H.out
  rintro _ w1 ⟨rfl, hb_w1⟩
  obtain ⟨hc_w1, hf_w1, hs_w1⟩ := bcell hb_w1
  try simp at hs_w1
  have hz_w1_w0 : w.heap.size < w1.heap.size := by omega
  have hy_w1_w0 : w.heap.size ≤ w1.heap.size := by omega
  have hx_w1_w0 : ∀ n : Nat, w.heap.size < w1.heap.size + n := by intro n; omega
  have hv_w1_w0 : ∀ n : Nat, w.heap.size ≤ w1.heap.size + n := by intro n; omega
  have hz_w1_w1 : w.heap.size + 1 < w1.heap.size := by omega
  have hy_w1_w1 : w.heap.size + 1 ≤ w1.heap.size := by omega
  have hx_w1_w1 : ∀ n : Nat, w.heap.size + 1 < w1.heap.size + n := by intro n; omega
  have hv_w1_w1 : ∀ n : Nat, w.heap.size + 1 ≤ w1.heap.size + n := by intro n; omega
  go_wp2
  go_ret2
  refine ⟨by first | rfl | (simp), ?_⟩
  repeat' (first | (with_reducible exact Below.refl _ _) | (with_reducible assumption) | (with_reducible refine Below.alloc ?_ ?_ _) | (with_reducible refine Below.drew ?_) | (with_reducible refine bdrewN ?_ _) | (with_reducible refine Below.setCell ?_ ?_ _) | (with_reducible refine bthen ?_ (by assumption) ?_) | go_size)
def PiSR (w : World) (d X Y : Int) (px py : Int) (n gl g : Nat) (k : Nat) (vk : Value) (wr : World) : Prop :=
  ∃ (t : Nat) (x y : Int), (t ≤ n ∧ n ≤ t + k) ∧ vk = .int .i64 ((t : Int) + 1) ∧ (ppS d X Y true t).1 = (x, y) ∧
    Blk wr g 26 #[.int .i64 x, .int .i64 y] ∧ Blk wr gl 26 #[.int .i64 X, .int .i64 Y] ∧ Blk wr w.heap.size 26 #[.int .i64 px, .int .i64 py] ∧ Below w.heap.size w wr
set_option maxRecDepth 100000 in
set_option maxHeartbeats 4000000 in
theorem pellIndexS_sol (d x y : Int) (n : Nat) (S : SolN d x y n) (w : World) : Calls Try.prog 33 #[.int .i64 d, .agg #[.int .i64 x, .int .i64 y]] w (Ret w (.tuple #[.int .i64 ((n : Int) + 1), .int .i64 0])) := by
  obtain ⟨⟨h1, h2⟩, hpd, hok, hnm, hx1, hy1, hny⟩ := S.facts
  have hb := okP_bd h1 h2 hok
  have H := Lib.hid S.pc
  have kL := fun w => l09Least_any d hpd w
  have kN := fun w => l09Norm_any d x y h1 h2 hok w
  rw [hnm] at kN
  have hall := S.ok
  have hhit := S.hit
  have hB : lsB d (perN d) = true := hall 0 (by omega)
  have hokL := ls_ok hB
  have hround := fun t => pp_round hpd (lsB d (perN d)) t
  have hokt := fun k => pp_ok (d := d) (X := lsX d (perN d)) (Y := lsY d (perN d)) (b := lsB d (perN d)) (fun hb => ls_ok hb) k
  have hmono := fun t k => pp_mono hpd (lsB d (perN d)) t k
  have hy2 : y ≤ 1000000000 := hb.2.1.2
  unfold LeastP at kL
  rw [hB] at kL hall hhit hround hokt hmono
  generalize lsX d (perN d) = X at *
  generalize lsY d (perN d) = Y at *
  have HALL := Lib.hid hall
  have HHIT := Lib.hid hhit
  have HR := Lib.hid hround
  have HOK := Lib.hid hokt
  have HM := Lib.hid hmono
  have HOKL := Lib.hid hokL
  have hxn : ¬ x < 1 := by omega
  have hyn : ¬ y < 1 := by omega
  clear hall hhit hround hokt hokL hB hb hok hnm hmono S hpd
  go_enter Try.func33, Try.ntmps33
  go_wp2_with fail
  apply Calls.mono
  · with_reducible exact l09Code_any _ _ _ 0 H.out _
  rintro _ w1 ⟨rfl, hb_w1⟩
  obtain ⟨hc_w1, hf_w1, hs_w1⟩ := bcell hb_w1
  try simp at hs_w1
  have hz_w1_w0 : w.heap.size < w1.heap.size := by omega
  have hy_w1_w0 : w.heap.size ≤ w1.heap.size := by omega
  have hx_w1_w0 : ∀ n : Nat, w.heap.size < w1.heap.size + n := by intro n; omega
  have hv_w1_w0 : ∀ n : Nat, w.heap.size ≤ w1.heap.size + n := by intro n; omega
  go_wp2_with fail
  apply Calls.mono
  · with_reducible exact kN _
  rintro _ w3 ⟨rfl, hb_w3⟩
  obtain ⟨hc_w3, hf_w3, hs_w3⟩ := bcell hb_w3
  try simp at hs_w3
  have hz_w3_w0 : w.heap.size < w3.heap.size := by omega
  have hy_w3_w0 : w.heap.size ≤ w3.heap.size := by omega
  have hx_w3_w0 : ∀ n : Nat, w.heap.size < w3.heap.size + n := by intro n; omega
  have hv_w3_w0 : ∀ n : Nat, w.heap.size ≤ w3.heap.size + n := by intro n; omega
  go_wp2_with fail
  apply Calls.mono
  · with_reducible exact kL _
  rintro _ w2 ⟨x0, y0, rfl, hxy, hb_w2⟩
  obtain ⟨rfl, rfl⟩ := hxy trivial
  have q1 := hb_w1.size
  have q3 := hb_w3.size
  have q2 := hb_w2.size
  rw [World.size_alloc] at q1
  have hP := (((Blk.new w 26 #[.int .i64 x, .int .i64 y]).below hb_w1 (by simp)).below hb_w3 (by omega)).below hb_w2 (by omega)
  have bel0 : Below w.heap.size w w2 := by repeat' (first | (with_reducible exact Below.refl _ _) | (with_reducible assumption) | (with_reducible refine Below.alloc ?_ ?_ _) | (with_reducible refine Below.drew ?_) | (with_reducible refine bdrewN ?_ _) | (with_reducible refine Below.setCell ?_ ?_ _) | (with_reducible refine bthen ?_ (by assumption) ?_) | go_size)
  clear hc_w1 hf_w1 hc_w3 hf_w3 kL kN
  go_wp2_with fail
  go_loopg [10] n (PiSR w d x0 y0 x y n w2.heap.size (w2.heap.size + 1))
  case atStart =>
    refine ⟨0, x0, y0, ⟨by omega, by omega⟩, rfl, rfl, ?_, (Blk.new w2 _ _).alloc _, (hP.alloc _).alloc _, (bel0.alloc (by omega) _).alloc (by rw [World.size_alloc]; omega) _⟩
    have hb := Blk.new (w2.alloc (.cells #[.int .i64 x0, .int .i64 y0] 26)) 26 #[.int .i64 x0, .int .i64 y0]
    rw [World.size_alloc] at hb
    exact hb
  case round =>
    obtain ⟨t, xt, yt, ⟨ht1, ht2⟩, rfl, hxt, hG, hL, hP, hbw⟩ := hrel
    have qr := hbw.size
    have lG := hG.lt
    have lL := hL.lt
    have lP := hP.lt
    have hst := HALL.out t ht1
    have c1 : wr.cell? ⟨w2.heap.size + 1, 0, none⟩ = some (.int .i64 xt) := hG.cell 0
    have c2 : wr.cell? ⟨w2.heap.size + 1, 1, none⟩ = some (.int .i64 yt) := hG.cell 1
    have c3 : wr.cell? ⟨w.heap.size, 0, none⟩ = some (.int .i64 x) := hP.cell 0
    have c4 : wr.cell? ⟨w.heap.size, 1, none⟩ = some (.int .i64 y) := hP.cell 1
    have hq1 := run_guardP .neq
    by_cases htn : t < n
    · obtain ⟨xa, ya, xb, yb, o, r1, r2, r3, r4, r5, r6, r7, r8, r9, r10⟩ := HR.out t
      obtain ⟨rfl, rfl⟩ : xa = xt ∧ ya = yt := by rw [r1] at hxt; exact ⟨(Prod.mk.inj hxt).1, (Prod.mk.inj hxt).2⟩
      have hm := HM.out (t + 1) (n - (t + 1))
      rw [show t + 1 + (n - (t + 1)) = n by omega, HHIT.out, r2] at hm
      simp only at hm
      have hle : ya ≤ y := by omega
      have hq := run_neP xa ya x y true (by rw [eqP_false (by omega)]; rfl)
      have hok1 := HOK.out t hst
      rw [r1] at hok1
      have kM := fun w => l09Mul_any d _ _ _ _ h1 h2 hok1 HOKL.out w
      have hst2 := HALL.out (t + 1) (by omega)
      have ho : (fitP d ya y0 && okP d xb yb) = true := by
        rw [r5, hst, Bool.true_and] at hst2
        rw [← r6]
        exact hst2
      simp only at kM
      rw [← r3, ← r4, ho, (Bool.and_eq_true_iff.1 ho).1] at kM
      simp only [if_true] at kM
      have htb : (t : Int) ≤ 1000000000 := by omega
      have R2 := Lib.hid r2
      clear r1 r2 r3 r4 r5 r6 hxt hst hst2 ho hok1 hm
      have c5 : wr.cell? ⟨w2.heap.size, 0, none⟩ = some (.int .i64 x0) := hL.cell 0
      have c6 : wr.cell? ⟨w2.heap.size, 1, none⟩ = some (.int .i64 y0) := hL.cell 1
      go_wp2_with fail
      apply Calls.mono
      · with_reducible exact kM _
      rintro _ w6 ⟨rfl, hb_w6⟩
      have q6 := hb_w6.size
      have f1 := hG.below hb_w6 lG
      have f2 := hL.below hb_w6 lL
      have f3 := hP.below hb_w6 lP
      have f4 := bthen hbw hb_w6 (by omega)
      have n3 : w6.frozen? ⟨w2.heap.size + 1, 0, none⟩ = false := f1.frozen 0
      have n4 : w6.frozen? ⟨w2.heap.size + 1, 1, none⟩ = false := f1.frozen 1
      have n1 : w6.cell? ⟨w2.heap.size + 1, 0, none⟩ = some (.int .i64 xa) := f1.cell 0
      have n2 : w6.cell? ⟨w2.heap.size + 1, 1, none⟩ = some (.int .i64 ya) := f1.cell 1
      have n5 : w2.heap.size + 1 < w6.heap.size := by omega
      go_wp2
      go_roundg (gk - 1)
      case measure => omega
      case rel =>
        refine ⟨t + 1, xb, yb, ⟨by omega, by omega⟩, by go_num, R2.out, (f1.set2 _ _).alloc _, ?_, ?_, ?_⟩
        · exact ((f2.far (p := ⟨w2.heap.size + 1, 0, none⟩) (by simp) _).far (p := ⟨w2.heap.size + 1, 1, none⟩) (by simp) _).alloc _
        · exact ((f3.far (p := ⟨w2.heap.size + 1, 0, none⟩) (by simp; omega) _).far (p := ⟨w2.heap.size + 1, 1, none⟩) (by simp; omega) _).alloc _
        · repeat' (first | (with_reducible exact Below.refl _ _) | (with_reducible assumption) | (with_reducible refine Below.alloc ?_ ?_ _) | (with_reducible refine Below.drew ?_) | (with_reducible refine bdrewN ?_ _) | (with_reducible refine Below.setCell ?_ ?_ _) | (with_reducible refine bthen ?_ (by assumption) ?_) | go_size)
    · obtain rfl : t = n := by omega
      obtain ⟨rfl, rfl⟩ : xt = x ∧ yt = y := by rw [HHIT.out] at hxt; exact ⟨(Prod.mk.inj hxt).1.symm, (Prod.mk.inj hxt).2.symm⟩
      have hq := run_neP xt yt xt yt false (by rw [eqP_true]; rfl)
      clear hxt hst
      go_wp2
      go_ret2
      exact ⟨rfl, hbw⟩
theorem pellIndexS_no (d x y : Int) (hpc : pcM d x y = 0) (hno : ¬ (nmV d x y = 1 ∧ 1 ≤ x ∧ 1 ≤ y)) (w : World) : Calls Try.prog 33 #[.int .i64 d, .agg #[.int .i64 x, .int .i64 y]] w (Ret w (.tuple #[.int .i64 0, .int .i64 3])) := by
  obtain ⟨⟨h1, h2⟩, hpd, hok⟩ := pc_zero hpc
  have H := Lib.hid hpc
  have kN := fun w => l09Norm_any d x y h1 h2 hok w
  generalize nmV d x y = v at *
  by_cases e1 : v = 1
  · subst e1
    by_cases e2 : x < 1
    · clear hno hok hpd hpc
      go_enter Try.func33, Try.ntmps33
      go_wp2_with fail
      apply Calls.mono
      · with_reducible exact l09Code_any _ _ _ 0 H.out _
      rintro _ w1 ⟨rfl, hb_w1⟩
      obtain ⟨hc_w1, hf_w1, hs_w1⟩ := bcell hb_w1
      try simp at hs_w1
      have hz_w1_w0 : w.heap.size < w1.heap.size := by omega
      have hy_w1_w0 : w.heap.size ≤ w1.heap.size := by omega
      have hx_w1_w0 : ∀ n : Nat, w.heap.size < w1.heap.size + n := by intro n; omega
      have hv_w1_w0 : ∀ n : Nat, w.heap.size ≤ w1.heap.size + n := by intro n; omega
      go_wp2_with fail
      apply Calls.mono
      · with_reducible exact kN _
      rintro _ w3 ⟨rfl, hb_w3⟩
      obtain ⟨hc_w3, hf_w3, hs_w3⟩ := bcell hb_w3
      try simp at hs_w3
      have hz_w3_w0 : w.heap.size < w3.heap.size := by omega
      have hy_w3_w0 : w.heap.size ≤ w3.heap.size := by omega
      have hx_w3_w0 : ∀ n : Nat, w.heap.size < w3.heap.size + n := by intro n; omega
      have hv_w3_w0 : ∀ n : Nat, w.heap.size ≤ w3.heap.size + n := by intro n; omega
      go_wp2
      go_ret2
      refine ⟨by first | rfl | (simp), ?_⟩
      repeat' (first | (with_reducible exact Below.refl _ _) | (with_reducible assumption) | (with_reducible refine Below.alloc ?_ ?_ _) | (with_reducible refine Below.drew ?_) | (with_reducible refine bdrewN ?_ _) | (with_reducible refine Below.setCell ?_ ?_ _) | (with_reducible refine bthen ?_ (by assumption) ?_) | go_size)
    · have e3 : y < 1 := by
        rcases Int.lt_or_le y 1 with g | g
        · exact g
        · exact absurd ⟨rfl, by omega, g⟩ hno
      clear hno hok hpd hpc
      go_enter Try.func33, Try.ntmps33
      go_wp2_with fail
      apply Calls.mono
      · with_reducible exact l09Code_any _ _ _ 0 H.out _
      rintro _ w1 ⟨rfl, hb_w1⟩
      obtain ⟨hc_w1, hf_w1, hs_w1⟩ := bcell hb_w1
      try simp at hs_w1
      have hz_w1_w0 : w.heap.size < w1.heap.size := by omega
      have hy_w1_w0 : w.heap.size ≤ w1.heap.size := by omega
      have hx_w1_w0 : ∀ n : Nat, w.heap.size < w1.heap.size + n := by intro n; omega
      have hv_w1_w0 : ∀ n : Nat, w.heap.size ≤ w1.heap.size + n := by intro n; omega
      go_wp2_with fail
      apply Calls.mono
      · with_reducible exact kN _
      rintro _ w3 ⟨rfl, hb_w3⟩
      obtain ⟨hc_w3, hf_w3, hs_w3⟩ := bcell hb_w3
      try simp at hs_w3
      have hz_w3_w0 : w.heap.size < w3.heap.size := by omega
      have hy_w3_w0 : w.heap.size ≤ w3.heap.size := by omega
      have hx_w3_w0 : ∀ n : Nat, w.heap.size < w3.heap.size + n := by intro n; omega
      have hv_w3_w0 : ∀ n : Nat, w.heap.size ≤ w3.heap.size + n := by intro n; omega
      go_wp2
      go_ret2
      refine ⟨by first | rfl | (simp), ?_⟩
      repeat' (first | (with_reducible exact Below.refl _ _) | (with_reducible assumption) | (with_reducible refine Below.alloc ?_ ?_ _) | (with_reducible refine Below.drew ?_) | (with_reducible refine bdrewN ?_ _) | (with_reducible refine Below.setCell ?_ ?_ _) | (with_reducible refine bthen ?_ (by assumption) ?_) | go_size)
  · have e4 : (v != 1) = true := by simpa using e1
    clear hno hok hpd hpc e1
    go_enter Try.func33, Try.ntmps33
    go_wp2_with fail
    apply Calls.mono
    · with_reducible exact l09Code_any _ _ _ 0 H.out _
    rintro _ w1 ⟨rfl, hb_w1⟩
    obtain ⟨hc_w1, hf_w1, hs_w1⟩ := bcell hb_w1
    try simp at hs_w1
    have hz_w1_w0 : w.heap.size < w1.heap.size := by omega
    have hy_w1_w0 : w.heap.size ≤ w1.heap.size := by omega
    have hx_w1_w0 : ∀ n : Nat, w.heap.size < w1.heap.size + n := by intro n; omega
    have hv_w1_w0 : ∀ n : Nat, w.heap.size ≤ w1.heap.size + n := by intro n; omega
    go_wp2_with fail
    apply Calls.mono
    · with_reducible exact kN _
    rintro _ w3 ⟨rfl, hb_w3⟩
    obtain ⟨hc_w3, hf_w3, hs_w3⟩ := bcell hb_w3
    try simp at hs_w3
    have hz_w3_w0 : w.heap.size < w3.heap.size := by omega
    have hy_w3_w0 : w.heap.size ≤ w3.heap.size := by omega
    have hx_w3_w0 : ∀ n : Nat, w.heap.size < w3.heap.size + n := by intro n; omega
    have hv_w3_w0 : ∀ n : Nat, w.heap.size ≤ w3.heap.size + n := by intro n; omega
    go_wp2
    go_ret2
    refine ⟨by first | rfl | (simp), ?_⟩
    repeat' (first | (with_reducible exact Below.refl _ _) | (with_reducible assumption) | (with_reducible refine Below.alloc ?_ ?_ _) | (with_reducible refine Below.drew ?_) | (with_reducible refine bdrewN ?_ _) | (with_reducible refine Below.setCell ?_ ?_ _) | (with_reducible refine bthen ?_ (by assumption) ?_) | go_size)
theorem pellIndexS_bad (d x y c : Int) (hpc : pcM d x y = c) (hc : c ≠ 0) (w : World) : Calls Try.prog 33 #[.int .i64 d, .agg #[.int .i64 x, .int .i64 y]] w (Ret w (.tuple #[.int .i64 0, .int .i64 c])) := by
  have H := Lib.hid hpc
  have hne : (c != 0) = true := by simpa using hc
  clear hpc hc
  go_enter Try.func33, Try.ntmps33
  go_wp2_with fail
  apply Calls.mono
  · with_reducible exact l09Code_any _ _ _ c H.out _
  rintro _ w1 ⟨rfl, hb_w1⟩
  obtain ⟨hc_w1, hf_w1, hs_w1⟩ := bcell hb_w1
  try simp at hs_w1
  have hz_w1_w0 : w.heap.size < w1.heap.size := by omega
  have hy_w1_w0 : w.heap.size ≤ w1.heap.size := by omega
  have hx_w1_w0 : ∀ n : Nat, w.heap.size < w1.heap.size + n := by intro n; omega
  have hv_w1_w0 : ∀ n : Nat, w.heap.size ≤ w1.heap.size + n := by intro n; omega
  go_wp2
  go_ret2
  refine ⟨by first | rfl | (simp), ?_⟩
  repeat' (first | (with_reducible exact Below.refl _ _) | (with_reducible assumption) | (with_reducible refine Below.alloc ?_ ?_ _) | (with_reducible refine Below.drew ?_) | (with_reducible refine bdrewN ?_ _) | (with_reducible refine Below.setCell ?_ ?_ _) | (with_reducible refine bthen ?_ (by assumption) ?_) | go_size)
end Go.Proofs.Ytkjakgemjhbfoaa
