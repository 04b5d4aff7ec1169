/-
  The surd of a head and a period: the reference's way.
-/
import Derived.Test.YtkjakgemjhbfoaaSk4
import Derived.Test.YtkjakgemjhbfoaaSkT
namespace Go.Proofs.Ytkjakgemjhbfoaa
open Go.RowKit

theorem fit_sub {h l : List Int} (hp : pdB h l = true) (hf : fitL (h ++ l) = true) : fitL l = true := by
  have key : ∀ n, n ≤ l.length → fitN l n = true := by
    intro n
    induction n with
    | zero => intro _; rfl
    | succ n ih =>
      intro hn
      unfold fitN
      rw [ih (by omega), Bool.true_and]
      obtain ⟨⟨q1, q2, q3, q4, q5, q6, q7, _⟩, hb⟩ := fit_period hp hf (k := n + 1) (by omega) hn
      unfold fitE
      rw [Bool.and_eq_true, inB_iff, inB_iff]
      omega
  exact key _ (Nat.le_refl _)
/-- An append behind '&&' or '||' whose guard is met. -/
theorem wp_appG (w : World) {ops : Array Oper} {rest : List Oper} {o : Oper} {a : Act} {Q : Exit → Act → World → Prop} (hw : Region.wanted o (yielded ops a.tmps) = true) (s x : Operand)
    (ho : o.op = .call { callee := .builtin .append, args := #[s, x], argTypes := #[41, 41] })
    (base : Nat) (v : Value) (n m : Nat) (xs ys : List Int) (hs : a.eval s = v) (hown : w.ownsRow base 2 1 v n (ints xs))
    (g of c : Nat) (hx : a.eval x = .slice (some ⟨g, of, none⟩) m c) (hl : ys.length = m) (hcell : ∀ j u, (ints ys)[j]? = some u → w.cell? ⟨g, of + j, none⟩ = some u) (hb : (n + m) * 8 ≤ 140737488355328) (hbase : base ≤ w.heap.size)
    (h : ∀ v' w', w'.ownsRow base 2 1 v' (n + m) (ints (xs ++ ys)) → w.grownBy w' v.ownBlock → wpList Try.prog ops Q rest (a.put o.dst v') w') :
    wpList Try.prog ops Q (o :: rest) a w := by
  obtain ⟨i, hi, hz, hsz, hby⟩ := Try.zeroI
  have hxy : ints (xs ++ ys) = ints xs ++ ints ys := by simp [ints]
  refine wpList_step fun K hK => ?_
  rw [if_pos hw]
  obtain ⟨v', w', hr, h2, h3, h4, h5⟩ := run_append_own_at (P := Try.prog) w base 41 o.type 2 i _ 1 8 Try.underlying41 hi hz hsz hby rfl (by decide) v n (ints xs) hown ⟨g, of, none⟩ m c (ints ys) (by rw [ints_len, hl, Nat.mul_one]) (fun j u hu => by rw [addr_addN]; exact hcell j u hu) (ints_one ys) (by simp only [maxLen]; omega) hb hbase
  exact Lib.wp_append_run w s x 41 41 ho v _ hs hx v' w' hr (hK _ _ (h v' w' (by rw [hxy]; exact h2) h3))
set_option maxHeartbeats 1000000 in
set_option maxRecDepth 100000 in
theorem l08Terms_any (v1 v2 : Value) (n1 n2 : Nat) (hs ls : List Int) (w : World) (h1 : Rs w 1 v1 n1 (ints hs)) (h2 : Rs w 1 v2 n2 (ints ls)) (b1 : n1 ≤ 1048576) (b2 : n2 ≤ 1048576) (r : Bool) (hr : pdB hs ls = r) :
    Calls Try.prog 73 #[v1, v2] w (Ret w (.bool r)) := by
  have l1 : hs.length = n1 := by have := (rd_len h1.1).1; rw [ints_len] at this; omega
  have l2 : ls.length = n2 := by have := (rd_len h2.1).1; rw [ints_len] at this; omega
  have hu : pdB hs ls = (decide (1 ≤ ls.length) && decide (1 ≤ ls.getD 0 0) && tmsB (hs ++ ls)) := rfl
  obtain ⟨A1, k1, rfl, -⟩ := id h1.1
  obtain ⟨A2, k2, rfl, _, _, _, hr2⟩ := id h2.1
  by_cases h0 : n2 = 0
  · subst h0
    obtain rfl : ls = [] := List.length_eq_zero_iff.1 l2
    obtain rfl : false = r := by rw [← hr, hu]; rfl
    clear h1 h2 l1 l2 hu hr hr2
    go_enter Try.func73, Try.ntmps73
    go_wp2
    go_ret
    refine ⟨by first | rfl | (simp), ?_⟩
    repeat' (first | (with_reducible exact Below.refl _ _) | (with_reducible assumption) | (with_reducible refine Below.alloc ?_ ?_ _) | (with_reducible refine Below.drew ?_) | (with_reducible refine bdrewN ?_ _) | (with_reducible refine Below.setCell ?_ ?_ _) | (with_reducible refine bthen ?_ (by assumption) ?_) | go_size)
  · rcases hr2 with e | ⟨g, o, rfl, hg, hcell⟩
    · omega
    obtain ⟨z, zs, rfl⟩ := List.exists_cons_of_length_pos (show 0 < ls.length by omega)
    have c0 : w.cell? ⟨g, o, none⟩ = some (.int .i64 z) := hcell 0 _ rfl
    have hn2 : (0 : Int) < (n2 : Int) := by omega
    have hu' : (decide (1 ≤ z) && tmsB (hs ++ z :: zs)) = r := by rw [← hr, hu]; simp
    have HC := Lib.hid hcell
    have HLL := Lib.hid l2
    clear hu hr hcell
    by_cases hz : 1 ≤ z
    · have hu2 : tmsB (hs ++ z :: zs) = r := by rw [← hu', decide_eq_true hz, Bool.true_and]
      clear hu'
      have b3 : n1 + n2 ≤ 4194304 := by omega
      have kO := own_any _ n1 hs w h1 b1
      have H2 := Lib.hid h2
      clear h1 h2 l1 l2
      go_enter Try.func73, Try.ntmps73
      go_wp2_with fail
      apply Calls.mono
      · with_reducible exact kO
      rintro _ w1 ⟨v, rfl, hown, hb_w1⟩
      have hs1 := hb_w1.size
      have hcl : ∀ j u, (ints (z :: zs))[j]? = some u → w1.cell? ⟨g, o + j, none⟩ = some u := fun j u hu => (hb_w1.cell (p := ⟨g, o + j, none⟩) hg).trans (HC.out j u hu)
      have HCL := Lib.hid hcl
      clear hcl
      go_wp2_with (at_builtin; refine wp_appG _ rfl (.tmp 16) (.tmp 17) rfl w.heap.size _ n1 n2 hs (z :: zs) rfl hown g o k2 rfl HLL.out HCL.out (by omega) hs1 ?_; intro v2 w2 hown2 hgr2)
      have bel2 : Below w.heap.size w w2 := hb_w1.grown hgr2 hs1 (fun k hk => (hown.lt k hk).1)
      have hs2 := bel2.size
      have kV := l03Ok_any v2 (n1 + n2) (hs ++ z :: zs) w2 (Rd.of_own hown2) b3 r hu2
      go_wp2_with fail
      apply Calls.mono
      · with_reducible exact kV
      rintro _ w3 ⟨rfl, hb_w3⟩
      go_wp2
      go_ret
      refine ⟨by first | rfl | (simp), ?_⟩
      repeat' (first | (with_reducible exact Below.refl _ _) | (with_reducible assumption) | (with_reducible refine Below.alloc ?_ ?_ _) | (with_reducible refine Below.drew ?_) | (with_reducible refine bdrewN ?_ _) | (with_reducible refine Below.setCell ?_ ?_ _) | (with_reducible refine bthen ?_ (by assumption) ?_) | go_size)
    · obtain rfl : false = r := by rw [← hu', decide_eq_false hz, Bool.false_and]
      clear hu' h1 h2 l1 l2
      go_enter Try.func73, Try.ntmps73
      go_wp2
      go_ret
      refine ⟨by first | rfl | (simp), ?_⟩
      repeat' (first | (with_reducible exact Below.refl _ _) | (with_reducible assumption) | (with_reducible refine Below.alloc ?_ ?_ _) | (with_reducible refine Below.drew ?_) | (with_reducible refine bdrewN ?_ _) | (with_reducible refine Below.setCell ?_ ?_ _) | (with_reducible refine bthen ?_ (by assumption) ?_) | go_size)
def SsR (w : World) (B : Nat) (d : Int) (h : List Int) (x : Int × Int) (F : Bool) (k : Nat) (ok i : Value) (wr : World) : Prop :=
  ∃ (m : Nat) (b : Bool) (y1 y2 y3 : Int), m ≤ h.length ∧ m ≤ k ∧ i = .int .i64 ((m : Int) - 1) ∧ ok = .bool b ∧ (b = true → sfH d (h.drop m) x = some (y1, y3) ∧ y2 = d) ∧ (b = false → F = true → sfH d h x = none) ∧
    Blk wr B 50 #[.int .i64 y1, .int .i64 y2, .int .i64 y3] ∧ Below B w wr
set_option maxHeartbeats 4000000 in
set_option maxRecDepth 100000 in
theorem surdFromS_any (v1 v2 : Value) (n1 n2 : Nat) (hs ls : List Int) (w : World) (h1 : Rs w 1 v1 n1 (ints hs)) (h2 : Rs w 1 v2 n2 (ints ls)) (b1 : n1 ≤ 1048576) (b2 : n2 ≤ 1048576) :
    Calls Try.prog 35 #[v1, v2] w (Ret w (.tuple #[.agg #[.int .i64 (sfM hs ls).1.1, .int .i64 (sfM hs ls).1.2.1, .int .i64 (sfM hs ls).1.2.2], .int .i64 (sfM hs ls).2])) := by
  have l1 : hs.length = n1 := by have := (rd_len h1.1).1; rw [ints_len] at this; omega
  have l2 : ls.length = n2 := by have := (rd_len h2.1).1; rw [ints_len] at this; omega
  obtain ⟨A1, k1, rfl, -⟩ := id h1.1
  obtain ⟨A2, k2, rfl, -⟩ := id h2.1
  have kA := fun w' (hb : Below w.heap.size w w') => l08Terms_any _ _ n1 n2 hs ls w' (h1.below hb (Nat.le_refl _)) (h2.below hb (Nat.le_refl _)) b1 b2 _ rfl
  obtain ⟨M, hM⟩ : ∃ M, sfM hs ls = M := ⟨_, rfl⟩
  rw [hM]
  cases hp : pdB hs ls
  · obtain rfl : M = ((0, 0, 0), 2) := by rw [← hM]; unfold sfM; rw [hp]; rfl
    rw [hp] at kA
    clear h1 h2 l1 l2 hp hM
    go_enter Try.func35, Try.ntmps35
    go_wp2_with fail
    apply Calls.mono
    · with_reducible exact kA _ ((Below.refl _ _).alloc (Nat.le_refl _) _)
    rintro _ w1 ⟨rfl, hb_w1⟩
    obtain ⟨hc_w1, hf_w1, hs_w1⟩ := bcell hb_w1
    try simp at hs_w1
    have hz_w1_w0 : w.heap.size < w1.heap.size := by omega
    have hy_w1_w0 : w.heap.size ≤ w1.heap.size := by omega
    have hx_w1_w0 : ∀ n : Nat, w.heap.size < w1.heap.size + n := by intro n; omega
    have hv_w1_w0 : ∀ n : Nat, w.heap.size ≤ w1.heap.size + n := by intro n; omega
    go_wp2
    refine bodyPost_ret (by simp [results, Try.results35, go_sem, *]; try rfl) rfl ?_
    refine ⟨by first | rfl | simp, ?_⟩
    repeat' (first | (with_reducible exact Below.refl _ _) | (with_reducible assumption) | (with_reducible refine Below.alloc ?_ ?_ _) | (with_reducible refine Below.drew ?_) | (with_reducible refine bdrewN ?_ _) | (with_reducible refine Below.setCell ?_ ?_ _) | (with_reducible refine bthen ?_ (by assumption) ?_) | go_size)
  · rw [hp] at kA
    have kO := fun w' (hb : Below w.heap.size w w') => own_any _ n1 hs w' (h1.below hb (Nat.le_refl _)) b1
    have HM0 := Lib.hid hM
    have H1 := Lib.hid h1
    have H2 := Lib.hid h2
    have L1 := Lib.hid l1
    have L2 := Lib.hid l2
    have HP := Lib.hid hp
    obtain ⟨p1, p2, p3, p4, p5, p6⟩ := pd_facts hp
    have P1 := Lib.hid p1
    have P2 := Lib.hid p2
    have P4 := Lib.hid p4
    have hC : ∀ t ∈ hs ++ ls, -1000000000 ≤ t ∧ t ≤ 1000000000 := fun t ht => by
      rcases List.mem_append.1 ht with e | e
      · exact p4 t e
      · have := p2 t e; omega
    have HC := Lib.hid hC
    clear hM h1 h2 l1 l2 hp p1 p2 p3 p4 hC
    go_enter Try.func35, Try.ntmps35
    go_wp2_with fail
    apply Calls.mono
    · with_reducible exact kA _ ((Below.refl _ _).alloc (Nat.le_refl _) _)
    rintro _ w1 ⟨rfl, hb_w1⟩
    obtain ⟨hc_w1, hf_w1, hs_w1⟩ := bcell hb_w1
    try simp at hs_w1
    have hz_w1_w0 : w.heap.size < w1.heap.size := by omega
    have hy_w1_w0 : w.heap.size ≤ w1.heap.size := by omega
    have hx_w1_w0 : ∀ n : Nat, w.heap.size < w1.heap.size + n := by intro n; omega
    have hv_w1_w0 : ∀ n : Nat, w.heap.size ≤ w1.heap.size + n := by intro n; omega
    have bel1 : Below w.heap.size w w1 := bthen ((Below.refl _ _).alloc (Nat.le_refl _) _) hb_w1 (by rw [World.size_alloc]; omega)
    have hB1 := (Blk.new w 50 #[.int .i64 0, .int .i64 0, .int .i64 0]).below hb_w1 (by rw [World.size_alloc]; omega)
    go_wp2_with fail
    apply Calls.mono
    · with_reducible exact kO _ bel1
    rintro _ w2 ⟨v, rfl, hown, hb_w2⟩
    have q1' := hB1.lt
    have hB2 := hB1.below hb_w2 q1'
    have bel2 : Below w.heap.size w w2 := bthen bel1 hb_w2 bel1.size
    have HS := H2.out.below bel2 (Nat.le_refl _)
    go_wp2_with (at_builtin; refine wp_appI rfl (.tmp 18) (.tmp 19) rfl w1.heap.size _ _ n1 n2 hs ls rfl hown rfl HS (by omega) hb_w2.size ?_; intro v2 w3 hown3 hgr3 hat3)
    have hb13 : Below w1.heap.size w1 w3 := hb_w2.grown hgr3 hb_w2.size (fun k hk => (hown.lt k hk).1)
    have hB3 := hB1.below hb13 q1'
    have bel3 : Below w.heap.size w w3 := bthen bel1 hb13 bel1.size
    have q3' := hB3.lt
    have kM := l08Matrix_any v2 (n1 + n2) (hs ++ ls) w3 (Rd.of_own hown3) (by omega) HC.out
    clear hB1 hB2 hown hown3 HS hgr3 hat3 hb_w2 hb_w1 hb13 hc_w1 hf_w1 kA kO
    go_wp2_with fail
    apply Calls.mono
    · with_reducible exact kM
    rintro _ w4 ⟨cp, cq, cpp, cqq, rfl, -, hb_w4⟩
    have hB4 := hB3.below hb_w4 q3'
    have bel4 : Below w.heap.size w w4 := bthen bel3 hb_w4 bel3.size
    have q4' := hB4.lt
    have belC : Below w.heap.size w (w4.alloc (.cells #[.int .i64 cp, .int .i64 cq, .int .i64 cpp, .int .i64 cqq] 104)) := bel4.alloc bel4.size _
    have kP := l08Pure_any _ n2 ls _ (H2.out.below belC (Nat.le_refl _)).1 (by omega) P1.out P2.out
    clear hB3 kM bel3
    go_wp2_with fail
    apply Calls.mono
    · with_reducible exact kP
    rintro _ w5 ⟨a, b, c, rfl, hval, hb_w5⟩
    have hB5 := (hB4.alloc (.cells #[.int .i64 cp, .int .i64 cq, .int .i64 cpp, .int .i64 cqq] 104)).below hb_w5 (by rw [World.size_alloc]; omega)
    have bel5 : Below w.heap.size w w5 := bthen belC hb_w5 belC.size
    have q5' := hB5.lt
    have HV := Lib.hid hval
    have G1 := Lib.hid hB5
    have G2 := Lib.hid bel5
    have l1 := L1.out
    clear hB4 kP hb_w4 hb_w5 bel4 belC hval hB5 bel5
    go_wp2_with fail
    go_loopg [9, 10] n1 (fun k ok i wr => SsR w5 w5.heap.size (puD (mtx ls)) hs (pqP ls) (fitL (hs ++ ls)) k ok i wr)
    case atStart =>
      refine ⟨n1, (fitL ls && okX (puD (mtx ls)) (pqP ls)), a, b, c, by omega, Nat.le_refl _, by go_num, rfl, ?_, ?_, Blk.new w5 _ _, (Below.refl _ _).alloc (Nat.le_refl _) _⟩
      · intro h
        obtain ⟨e1, e2, e3⟩ := HV.out h
        refine ⟨?_, e2⟩
        rw [List.drop_of_length_le (by omega)]
        unfold sfH
        rw [if_pos (Bool.and_eq_true_iff.1 h).2, e1, e3]
        rfl
      · intro h hF
        rw [fit_sub HP.out hF, Bool.true_and] at h
        exact sf_none h _
    case round =>
      obtain ⟨m, ok, y1, y2, y3, hm1, hm2, rfl, rfl, hT, hN, hB, hbw⟩ := hrel
      have hR := G1.out.below hbw q5'
      have r0 : wr.cell? ⟨w.heap.size, 0, none⟩ = some (.int .i64 0) := hR.cell 0
      have r1 : wr.cell? ⟨w.heap.size, 1, none⟩ = some (.int .i64 0) := hR.cell 1
      have r2 : wr.cell? ⟨w.heap.size, 2, none⟩ = some (.int .i64 0) := hR.cell 2
      have g0 : wr.frozen? ⟨w.heap.size, 0, none⟩ = false := hR.frozen 0
      have g1 : wr.frozen? ⟨w.heap.size, 1, none⟩ = false := hR.frozen 1
      have g2 : wr.frozen? ⟨w.heap.size, 2, none⟩ = false := hR.frozen 2
      have e0 : wr.cell? ⟨w5.heap.size, 0, none⟩ = some (.int .i64 y1) := hB.cell 0
      have e1 : wr.cell? ⟨w5.heap.size, 1, none⟩ = some (.int .i64 y2) := hB.cell 1
      have e2 : wr.cell? ⟨w5.heap.size, 2, none⟩ = some (.int .i64 y3) := hB.cell 2
      have e3 : wr.frozen? ⟨w5.heap.size, 0, none⟩ = false := hB.frozen 0
      have e4 : wr.frozen? ⟨w5.heap.size, 1, none⟩ = false := hB.frozen 1
      have e5 : wr.frozen? ⟨w5.heap.size, 2, none⟩ = false := hB.frozen 2
      have lR := hR.lt
      have lB := hB.lt
      have belr : Below w.heap.size w wr := bthen G2.out hbw G2.out.size
      have nR : w.heap.size ≠ w5.heap.size := by omega
      have HT := Lib.hid hT
      have HN := Lib.hid hN
      have HB := Lib.hid hB
      have HR := Lib.hid hR
      clear hT hN hB hR
      have hM2 : fitL (hs ++ ls) = false → M = ((0, 0, 0), 5) := fun e => by rw [← HM0.out]; unfold sfM; rw [HP.out, e]; rfl
      have hM1 : fitL (hs ++ ls) = true → M = (match sfH (puD (mtx ls)) hs (pqP ls) with
            | some y => ((y.1, puD (mtx ls), y.2), 0)
            | none => ((0, 0, 0), 5)) := fun e => by rw [← HM0.out]; unfold sfM; rw [HP.out, e]; rfl
      have HM1 := Lib.hid hM1
      have HM2 := Lib.hid hM2
      clear hM1 hM2
      cases ok
      · obtain rfl : M = ((0, 0, 0), 5) := by
          cases hF : fitL (hs ++ ls)
          · exact HM2.out hF
          · rw [HM1.out hF, HN.out rfl hF]
        clear HM1 HM2 HM0
        by_cases hm0 : (m : Int) - 1 ≥ 0
        · cases hF : fitL (hs ++ ls)
          · go_wp2
            refine bodyPost_ret (by simp [results, Try.results35, go_sem, *]; try rfl) rfl ?_
            refine ⟨by first | rfl | simp, ?_⟩
            repeat' (first | (with_reducible exact Below.refl _ _) | (with_reducible assumption) | (with_reducible refine Below.alloc ?_ ?_ _) | (with_reducible refine Below.drew ?_) | (with_reducible refine bdrewN ?_ _) | (with_reducible refine Below.setCell ?_ ?_ _) | (with_reducible refine bthen ?_ (by assumption) ?_) | go_size)
          · go_wp2
            refine bodyPost_ret (by simp [results, Try.results35, go_sem, *]; try rfl) rfl ?_
            refine ⟨by first | rfl | simp, ?_⟩
            repeat' (first | (with_reducible exact Below.refl _ _) | (with_reducible assumption) | (with_reducible refine Below.alloc ?_ ?_ _) | (with_reducible refine Below.drew ?_) | (with_reducible refine bdrewN ?_ _) | (with_reducible refine Below.setCell ?_ ?_ _) | (with_reducible refine bthen ?_ (by assumption) ?_) | go_size)
        · cases hF : fitL (hs ++ ls)
          · go_wp2
            refine bodyPost_ret (by simp [results, Try.results35, go_sem, *]; try rfl) rfl ?_
            refine ⟨by first | rfl | simp, ?_⟩
            repeat' (first | (with_reducible exact Below.refl _ _) | (with_reducible assumption) | (with_reducible refine Below.alloc ?_ ?_ _) | (with_reducible refine Below.drew ?_) | (with_reducible refine bdrewN ?_ _) | (with_reducible refine Below.setCell ?_ ?_ _) | (with_reducible refine bthen ?_ (by assumption) ?_) | go_size)
          · go_wp2
            refine bodyPost_ret (by simp [results, Try.results35, go_sem, *]; try rfl) rfl ?_
            refine ⟨by first | rfl | simp, ?_⟩
            repeat' (first | (with_reducible exact Below.refl _ _) | (with_reducible assumption) | (with_reducible refine Below.alloc ?_ ?_ _) | (with_reducible refine Below.drew ?_) | (with_reducible refine bdrewN ?_ _) | (with_reducible refine Below.setCell ?_ ?_ _) | (with_reducible refine bthen ?_ (by assumption) ?_) | go_size)
      · obtain ⟨hsf, rfl⟩ := HT.out rfl
        cases m with
        | zero =>
          rw [List.drop_zero] at hsf
          obtain ⟨d1, d2, d3, d4, d5, d6, -⟩ := okS_bd (sfH_ok hsf)
          cases hF : fitL (hs ++ ls)
          · obtain rfl : M = ((0, 0, 0), 5) := HM2.out hF
            clear HM1 HM2 HM0 hsf
            go_wp2
            refine bodyPost_ret (by simp [results, Try.results35, go_sem, *]; try rfl) rfl ?_
            refine ⟨by first | rfl | simp, ?_⟩
            repeat' (first | (with_reducible exact Below.refl _ _) | (with_reducible assumption) | (with_reducible refine Below.alloc ?_ ?_ _) | (with_reducible refine Below.drew ?_) | (with_reducible refine bdrewN ?_ _) | (with_reducible refine Below.setCell ?_ ?_ _) | (with_reducible refine bthen ?_ (by assumption) ?_) | go_size)
          · obtain rfl : M = ((y1, puD (mtx ls), y3), 0) := by rw [HM1.out hF, hsf]
            clear HM1 HM2 HM0 hsf
            go_wp2
            refine bodyPost_ret (by simp [results, Try.results35, go_sem, *]; try rfl) rfl ?_
            refine ⟨by first | rfl | simp, ?_⟩
            repeat' (first | (with_reducible exact Below.refl _ _) | (with_reducible assumption) | (with_reducible refine Below.alloc ?_ ?_ _) | (with_reducible refine Below.drew ?_) | (with_reducible refine bdrewN ?_ _) | (with_reducible refine Below.setCell ?_ ?_ _) | (with_reducible refine bthen ?_ (by assumption) ?_) | go_size)
        | succ m =>
          obtain ⟨t, hz⟩ := get_ex (l := hs) (k := m) (by omega)
          have hsd := sf_drop (d := puD (mtx ls)) (x := pqP ls) hz
          rw [hsf] at hsd
          simp only at hsd
          have hyk := sfH_ok hsf
          obtain ⟨t1, t2⟩ := P4.out t (List.mem_of_getElem? hz)
          have kH := fun w => l08Head_any (puD (mtx ls)) (y1, y3) hyk t t1 t2 w
          rcases (H1.out.below belr (Nat.le_refl _)).1 with ⟨A, c', hA, x1, x2, x3, h0 | ⟨g, o, hA2, hg, hcell⟩⟩
          · omega
          injection hA with hA _ hcc
          subst hcc
          subst hA
          subst hA2
          have cz : wr.cell? ⟨g, o + m, none⟩ = some (.int .i64 t) := hcell m _ (ints_get hz)
          have hmn : (m : Int) < (n1 : Int) := by omega
          have hm' : ((m + 1 : Nat) : Int) - 1 = (m : Int) := by omega
          rw [hm']
          simp only at kH
          have hstop : okX (puD (mtx ls)) (t * blX (puD (mtx ls)) (y1, y3) - y1, blX (puD (mtx ls)) (y1, y3)) = false → sfH (puD (mtx ls)) hs (pqP ls) = none := fun e => by
            refine sf_stop (m := m) ?_
            rw [hsd, e]
            rfl
          have hgo : okX (puD (mtx ls)) (t * blX (puD (mtx ls)) (y1, y3) - y1, blX (puD (mtx ls)) (y1, y3)) = true → sfH (puD (mtx ls)) (hs.drop m) (pqP ls) = some (t * blX (puD (mtx ls)) (y1, y3) - y1, blX (puD (mtx ls)) (y1, y3)) := fun e => by
            rw [hsd, e]
            rfl
          have HST := Lib.hid hstop
          have HGO := Lib.hid hgo
          have KB : ∀ w9, Below wr.drew.heap.size wr.drew w9 → Blk w9 w5.heap.size 50 #[.int .i64 y1, .int .i64 (puD (mtx ls)), .int .i64 y3] ∧ Blk w9 w.heap.size 50 #[.int .i64 0, .int .i64 0, .int .i64 0] ∧ Below wr.heap.size wr w9 := fun w9 hb => ⟨HB.out.drew.below hb lB, HR.out.drew.below hb lR, bthen (Below.refl _ _).drew hb (Nat.le_refl _)⟩
          generalize okX (puD (mtx ls)) (t * blX (puD (mtx ls)) (y1, y3) - y1, blX (puD (mtx ls)) (y1, y3)) = ok at *
          generalize blX (puD (mtx ls)) (y1, y3) = bb at *
          clear hcell hz hsd hyk hsf hstop hgo HM1 HM2
          go_wp2_with fail
          go_region_with (go_at_call 77; refine (kH _).mono ?_; rintro _ w9 ⟨a9, b9, c9, rfl, hv9, hb_w9⟩; obtain ⟨KB1, KB2, KB3⟩ := KB w9 hb_w9; have u0 := KB1.cell 0; have u1 := KB1.cell 1; have u2 := KB1.cell 2; have f0 := KB1.frozen 0; have f1 := KB1.frozen 1; have f2 := KB1.frozen 2; have z9 := KB1.lt)
          all_goals go_wp2
          all_goals
            go_roundg m
            case measure => omega
            case rel =>
              refine ⟨m, ok, a9, b9, c9, by omega, Nat.le_refl _, by go_num, rfl, ?_, fun e _ => HST.out e, KB1.set3 _ _ _, ?_⟩
              · intro e
                obtain ⟨v1, v2, v3⟩ := hv9 e
                rw [HGO.out e, v1, v2, v3]
                exact ⟨rfl, rfl⟩
              · exact (((bthen hbw KB3 hbw.size).setCell (p := ⟨w5.heap.size, 0, none⟩) (Nat.le_refl _) _).setCell (p := ⟨w5.heap.size, 1, none⟩) (Nat.le_refl _) _).setCell (p := ⟨w5.heap.size, 2, none⟩) (Nat.le_refl _) _
end Go.Proofs.Ytkjakgemjhbfoaa
