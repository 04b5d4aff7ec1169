/-
  For all bytes the law FnPeriods answers true: a surd that is made of a drawn head and a drawn period has just these terms, or does not fit. Conditions: the library's tables hold what its text lays in them (the card ties this to the text).
-/
import Derived.Test.YtibbokllongomaaDoorDraw3
import Derived.Test.YtibbokllongomaaDoorDraw2
import Derived.Test.YtibbokllongomaaDoorPt
import Derived.Test.YtibbokllongomaaDoorA2s
import Derived.Test.YtibbokllongomaaDoorCard
namespace Go.Proofs.YtibbokllongomaaDoor
open Go.ChangeShapes Go.WideShapes Go.ChangeAt Go.RowKit Go.Joins
open Go.ChangeMaps (open_string shut_string)
set_option linter.unusedVariables false

/-- A head with so many periods behind it. -/
def alL (hs ls : List Int) : Nat → List Int
  | 0 => hs
  | t + 1 => alL hs ls t ++ ls
theorem alL_len (hs ls : List Int) : ∀ t, (alL hs ls t).length = hs.length + ls.length * t
  | 0 => by simp [alL]
  | t + 1 => by
    show (alL hs ls t ++ ls).length = _
    rw [List.length_append, alL_len hs ls t, Nat.mul_succ]
    omega
theorem ba_ne' {T : ByteArray} (h : T ≠ ⟨#[]⟩) : T.toList.isEmpty = false := by
  cases e : T.toList.isEmpty
  · rfl
  · exfalso
    rw [List.isEmpty_iff, ByteArray.toList_eq] at e
    refine h ?_
    cases T with
    | mk d =>
      rw [Array.toList_eq_nil_iff] at e
      have e : d = #[] := e
      rw [e]
theorem pt_some {hs ls : List Int} (h : pdB hs ls = true) : ∃ T : ByteArray, ptM hs ls = T ∧ T.toList.isEmpty = false := by
  refine ⟨_, rfl, ba_ne' ?_⟩
  unfold ptM
  rw [if_pos h]
  intro e
  have h2 := congrArg ByteArray.size e
  rw [ByteArray.size_append] at h2
  have e5 : (⟨#[41, 93]⟩ : ByteArray).size = 2 := rfl
  have e0 : (⟨#[]⟩ : ByteArray).size = 0 := rfl
  omega
def PaR (w : World) (hs ls : List Int) (k : Nat) (v i : Value) (wr : World) : Prop :=
  ∃ t : Nat, t ≤ 3 ∧ 3 ≤ t + k ∧ i = .int .i64 t ∧ wr.ownsRow w.heap.size 2 1 v (alL hs ls t).length (ints (alL hs ls t)) ∧ Below w.heap.size w wr
set_option maxHeartbeats 4000000 in
set_option maxRecDepth 100000 in
theorem walk_FnPeriods (a : Option Addr) (n c : Nat) (zs : List Int) (w : World) (ht : Tb w) (hr : IsRow .u8 w a n c zs) :
    Calls Tryd.prog 3 #[.slice a n c] w (Ret w (.bool true)) := by
  by_cases hl : n ≤ 3000
  · have hrd := byteRd_of_row hr
    have kL := fun w => a2Long_any a none n 0 c 0 false (by simp [hl]) w
    clear hr
    go_enter Tryd.func3, Tryd.ntmps3
    go_wp2_with fail
    apply Calls.mono
    · with_reducible exact kL _
    rintro _ w1 ⟨rfl, hb_w1⟩
    obtain ⟨hc_w1, hf_w1, hs_w1⟩ := bcell hb_w1
    try simp at hs_w1
    have hrd1 := hrd.below hb_w1
    go_wp2_with fail
    apply Calls.mono
    · with_reducible exact a2Period_any _ _ _ _ (by omega) hrd1
    rintro _ w2 ⟨v1, v2, hs, ls, rfl, hD, ho1, ho2, hb_w2⟩
    have bel2 : Below w.heap.size w w2 := bthen hb_w1 hb_w2 hb_w1.size
    have R1 := Rs.of_own ho1
    have R2 := Rs.of_own ho2
    have lh := hD.h1
    have ll := hD.l1
    have kF := fun w' (hb : Below w2.heap.size w2 w') => surdFromI_any v1 v2 hs.length ls.length hs ls w' (R1.below hb (Nat.le_refl _)) (R2.below hb (Nat.le_refl _)) (by omega) (by omega)
    have kT := fun w' (ht : Tb w') (hb : Below w2.heap.size w2 w') => periodTextI_any v1 v2 hs.length ls.length hs ls w' ht (R1.below hb (Nat.le_refl _)) (R2.below hb (Nat.le_refl _)) (by omega) (by omega)
    have hlaw := pd_law hD
    have hpd := hD.pd
    obtain ⟨T, hT, hT2⟩ := pt_some hpd
    rw [hT] at kT
    obtain ⟨A1, k1, rfl, -⟩ := id R1.1
    obtain ⟨A2, k2, rfl, -⟩ := id R2.1
    have HD := Lib.hid hD
    have HR1 := Lib.hid R1
    have HR2 := Lib.hid R2
    have HLW := Lib.hid hlaw
    generalize hp : (sfM hs ls).1.1 = p at *
    generalize hd : (sfM hs ls).1.2.1 = d at *
    generalize hq : (sfM hs ls).1.2.2 = q at *
    generalize hc : (sfM hs ls).2 = code at *
    have ht2 := ht.below bel2
    clear hD R1 R2 hlaw hT hpd ho1 ho2 hrd hrd1 hb_w1 hb_w2 hp hd hq hc hc_w1 hf_w1 hs_w1
    go_wp2_with fail
    apply Calls.mono
    · with_reducible exact kF _ (Below.refl _ _)
    rintro _ w3 ⟨rfl, hb_w3⟩
    rcases HLW.out with rfl | ⟨rfl, hok, hts⟩
    · go_wp2
      have belz := bthen bel2 hb_w3 bel2.size
      have z3 := belz.size
      go_ret
      refine ⟨by first | rfl | (simp), ?_⟩
      repeat' (first | (with_reducible exact Below.refl _ _) | (with_reducible assumption) | (with_reducible refine Below.alloc ?_ ?_ _) | (with_reducible refine Below.drew ?_) | (with_reducible refine bdrewN ?_ _) | (with_reducible refine Below.setCell ?_ ?_ _) | (with_reducible refine bthen ?_ (by assumption) ?_) | go_size)
    · have kV := fun w => validSurdS_any p d q w
      rw [hok] at kV
      have kS := fun w => termsS_any p d q ((hs.length + ls.length * 3 : Nat) : Int) w
      have en : ((hs.length + ls.length * 3 : Nat) : Int) = (hs.length : Int) + (ls.length : Int) * 3 := by omega
      rw [hts, en] at kS
      clear en
      clear hok hts HLW
      have S3 := hb_w3.size
      have belA : Below w2.heap.size w2 (w3.alloc (.cells #[.int .i64 p, .int .i64 d, .int .i64 q] 28)) := hb_w3.alloc S3 _
      have hA := Blk.new w3 28 #[.int .i64 p, .int .i64 d, .int .i64 q]
      go_wp2_with fail
      apply Calls.mono
      · with_reducible exact kV _
      rintro _ w4 ⟨rfl, hb_w4⟩
      have bel4 : Below w2.heap.size w2 w4 := bthen belA hb_w4 belA.size
      have hA4 := hA.below hb_w4 hA.lt
      have ht4 := ht2.below bel4
      go_wp2_with fail
      apply Calls.mono
      · with_reducible exact kT _ ht4 bel4
      rintro _ w5 ⟨rfl, hb_w5⟩
      have bel5 : Below w2.heap.size w2 w5 := bthen bel4 hb_w5 bel4.size
      have hA5 := hA4.below hb_w5 hA4.lt
      have S5 := bel5.size
      have belB : Below w2.heap.size w2 (w5.alloc (.cells #[] 2)) := bel5.alloc S5 _
      have hR1 := HR1.out.below belB (Nat.le_refl _)
      have hZ : w5.heap.size ≤ (w5.alloc (.cells #[] 2)).heap.size := by rw [World.size_alloc]; omega
      clear kT kF kV belA hA hA4 hb_w3 hb_w4 bel4 ht4
      go_wp2_with (at_builtin; refine wp_appI rfl (.tmp 37) (.tmp 38) rfl w5.heap.size _ _ 0 hs.length [] hs rfl (own_lit00 w5 2 1) rfl hR1 (by omega) hZ ?_; intro v6 w6 hown6 hgr6 hat6)
      have bel6 : Below w5.heap.size w5 w6 := ((Below.refl _ _).alloc (Nat.le_refl _) _).grown hgr6 hZ (fun k hk => by have e : some w5.heap.size = some k := hk; injection e with e; omega)
      go_loopg [7, 8] 3 (fun k v i wr => PaR w5 hs ls k v i wr)
      case atStart => exact ⟨0, by omega, by omega, rfl, by simpa [alL] using hown6, bel6⟩
      case round =>
        obtain ⟨t, ht1, ht3, rfl, hown, hbw⟩ := hrel
        have hlen := alL_len hs ls t
        have hsr := hbw.size
        by_cases ht9 : t < 3
        · have hR2 := HR2.out.below (bthen bel5 hbw S5) (Nat.le_refl _)
          have hlt : (t : Int) < 3 := by omega
          have hle : ls.length * t ≤ 4 * 3 := Nat.mul_le_mul ll.2 ht1
          go_wp2_with (at_builtin; refine wp_appI rfl (.tmp 44) (.tmp 45) rfl w5.heap.size _ _ (alL hs ls t).length ls.length (alL hs ls t) ls rfl hown rfl hR2 (by omega) hsr ?_; intro v7 w7 hown7 hgr7 hat7)
          go_roundg (gk - 1)
          case measure => omega
          case rel =>
            refine ⟨t + 1, by omega, by omega, by go_num, ?_, hbw.grown hgr7 hsr (fun k hk => (hown.lt k hk).1)⟩
            have e : alL hs ls (t + 1) = alL hs ls t ++ ls := rfl
            rw [e, List.length_append]
            exact hown7
        · obtain rfl : t = 3 := by omega
          have hAr := hA5.below hbw hA5.lt
          have c0 : wr.cell? ⟨w3.heap.size, 0, none⟩ = some (.int .i64 p) := hAr.cell 0
          have c1 : wr.cell? ⟨w3.heap.size, 1, none⟩ = some (.int .i64 d) := hAr.cell 1
          have c2 : wr.cell? ⟨w3.heap.size, 2, none⟩ = some (.int .i64 q) := hAr.cell 2
          have zr := hAr.lt
          have e : alL hs ls 3 = hs ++ ls ++ ls ++ ls := rfl
          rw [hlen, e] at hown
          rw [← e] at hown kS
          generalize alL hs ls 3 = xs at *
          have hlx : xs.length = hs.length + ls.length * 3 := hlen
          obtain ⟨A7, k7, rfl⟩ := row_slice hown
          clear hA5 hAr hlen ht1 ht3 ht9 hown6 hgr6 bel6 e HR1 hR1
          have belr : Below w2.heap.size w2 wr := bthen bel5 hbw S5
          go_wp2_with fail
          apply Calls.mono
          · with_reducible exact kS _
          rintro _ w8 ⟨v8, rfl, ho8, hb_w8⟩
          have ho7 := own_below hown hb_w8 (Nat.le_refl _)
          have belw : Below w.heap.size w w8 := bthen (bthen bel2 belr bel2.size) hb_w8 (bthen bel2 belr bel2.size).size
          obtain ⟨A8, k8, rfl⟩ := row_slice ho8
          simp only at ho8
          rw [hlx] at ho8
          have kQ := fun w' (hb : Below w8.heap.size w8 w') => a2Same_any _ _ _ _ xs xs w' ((Rd.of_own ho8).below hb (Nat.le_refl _)) ((Rd.of_own ho7).below hb (Nat.le_refl _)) true (by simp)
          clear kS
          go_wp2_with fail
          apply Calls.mono
          · with_reducible exact kQ _ (Below.refl _ _)
          rintro _ w9 ⟨rfl, hb_w9⟩
          have belz : Below w.heap.size w w9 := bthen belw hb_w9 belw.size
          go_wp2
          go_ret
          refine ⟨by first | rfl | (simp), ?_⟩
          repeat' (first | (with_reducible exact Below.refl _ _) | (with_reducible assumption) | (with_reducible refine Below.alloc ?_ ?_ _) | (with_reducible refine Below.drew ?_) | (with_reducible refine bdrewN ?_ _) | (with_reducible refine Below.setCell ?_ ?_ _) | (with_reducible refine bthen ?_ (by assumption) ?_) | go_size)
  · have kL := fun w => a2Long_any a none n 0 c 0 true (by simp [hl]) w
    clear hr hl
    go_enter Tryd.func3, Tryd.ntmps3
    go_wp2_with fail
    apply Calls.mono
    · with_reducible exact kL _
    rintro _ w1 ⟨rfl, hb_w1⟩
    obtain ⟨hc_w1, hf_w1, hs_w1⟩ := bcell hb_w1
    try simp at hs_w1
    go_wp2
    go_ret
    refine ⟨by first | rfl | (simp), ?_⟩
    repeat' (first | (with_reducible exact Below.refl _ _) | (with_reducible assumption) | (with_reducible refine Below.alloc ?_ ?_ _) | (with_reducible refine Below.drew ?_) | (with_reducible refine bdrewN ?_ _) | (with_reducible refine Below.setCell ?_ ?_ _) | (with_reducible refine bthen ?_ (by assumption) ?_) | go_size)
theorem door_FnPeriods (os : Os) (args : Array Value) : laidMetH Tryd.prog Rows.fnPeriodsRow.laid ((World.doorLaid Tryd.prog 62 os).forCall (fun _ _ => 0) ⟨#[], args, []⟩).memory :=
  laidMetH_of_parts3 (fuel := 8) (laidMet_of_run' 8 (by kernel_rfl) (by kernel_rfl)) (by kernel_rfl) (by kernel_rfl)
set_option maxRecDepth 100000 in
theorem lifted_FnPeriods (os : Os) (started : os.Started) (H : Type) (enc : TypeId × Value → H) :
    ReturnsInHanded {} Tryd.checked os 3 .any (fun w args => (Rows.fnPeriodsSpec.pre enc Tryd.prog Tryd.f3 [] false w args ∧ laidMetH Tryd.prog Rows.fnPeriodsRow.laid w) ∧ sizedMet enc Tryd.prog Tryd.f3 (OpenSpec.ofChange Rows.fnPeriodsSpec) false w args) (Rows.fnPeriodsSpec.post enc Tryd.prog Tryd.f3 false true false false) := by
  refine returnsInHanded_of_change_and (C := Tryd.checked) (X := fun w _ => laidMetH Tryd.prog Rows.fnPeriodsRow.laid w) (fun _ _ _ hh h => h.of_heap hh) own started (by kernel_rfl) Tryd.func3
    (ChangeSpec.witness_shaped (enc := enc) (C := Tryd.checked) (os := os) (X := fun w _ => laidMetH Tryd.prog Rows.fnPeriodsRow.laid w) false (World.doorLaid Tryd.prog 62 os) #[.slice none 0 0] 8 rfl (World.shaped_of_RefB (by kernel_rfl) (by kernel_rfl)) (by kernel_rfl) (by kernel_rfl) (by kernel_rfl) (door_FnPeriods os _)) ?_
  intro W base args ds gs before hval0 hW _ _ hL _
  have htb : Tb W := tb_of_laid hL (by kernel_rfl) (by kernel_rfl)
  have hval : ∀ (j : Nat) t v, Tryd.f3.params[j]? = some t → args[j]? = some v → Value.okWide Tryd.prog W .any base t v := hval0
  have hW' := hW
  obtain ⟨p, q, hA0, hV, rfl, hfz, hnd⟩ := hW
  have hA : DataW.TrodAll enc Tryd.prog W 0 (fun _ => true) true Tryd.f3.params.toList args.toList ds p := hA0
  rw [Tryd.params3] at hA hval
  obtain ⟨v0, vs0, d0, ds0, p0, q0, hargs, rfl, rfl, h0, r0⟩ := trodAll_cons hA
  obtain ⟨rfl, rfl, rfl⟩ := trodAll_nil r0
  obtain rfl : args = #[v0] := by cases args; simp_all
  obtain ⟨rfl, rfl⟩ := trodVars_none hV
  have k0 := h0
  have lt0 : ∀ x ∈ p0, x.block < W.heap.size := by obtain ⟨m, hm⟩ := k0; exact DataW.trod_lt m _ _ _ hm
  obtain ⟨a0, len0, cap0, rfl⟩ := okWide_slice Tryd.underlying22 (hval 0 22 v0 rfl rfl)
  obtain ⟨z0, ir0⟩ : ∃ zs, IsRow .u8 W a0 len0 cap0 zs := by
    obtain ⟨fuel, hf⟩ := h0
    rcases open_ints Tryd.underlying22 Tryd.underlying5 (by kernel_rfl) hf with ⟨hcs, _⟩ | ⟨x, l, c, zs, hcs, _, hl, hm, hz, _, hcell, hwz⟩
    · simp [Value.cells] at hcs
      obtain ⟨rfl, rfl, rfl⟩ := hcs
      exact ⟨[], .inl ⟨rfl, rfl, rfl, rfl⟩⟩
    · simp [Value.cells] at hcs
      obtain ⟨rfl, rfl, rfl⟩ := hcs
      exact ⟨zs, .inr ⟨_, rfl, hl, hm, by simpa using hz, hcell, hwz⟩⟩
  clear hA0 hval0
  refine (walk_FnPeriods a0 len0 cap0 z0 W htb ir0).mono fun e W' ⟨he, bel⟩ => ?_
  subst he
  exact ⟨_, rfl, _, _, _, [], _, [], hW', trodAll_mk1 (shut_bool Tryd.underlying4 _), (trodAll_cons_mk (Below.trod laidOut (by kernel_rfl) (of_decide_eq_true (by kernel_rfl)) k0 bel lt0) trodAll_mk0), rfl, bel.frame _, fun h => by cases h⟩
theorem over_FnPeriods : Rows.fnPeriodsRow.holds Tryd.pinned (OpenSpec.ofChange Rows.fnPeriodsSpec) :=
  OpenClaim.holds_of_wide 3 Tryd.f3 rfl rfl rfl rfl rfl rfl rfl ⟨rfl, rfl, rfl, rfl, rfl⟩ rfl rfl rfl rfl rfl (by kernel_rfl) Tryd.func3 (by kernel_rfl)
    (of_decide_eq_true (by kernel_rfl)) (by unfold Func.isWrapper; first | (rw [if_pos (by decide +kernel)]; kernel_rfl) | (rw [if_neg (by decide +kernel)]; exact ⟨rfl, rfl⟩))
    (fun os started H enc _ => lifted_FnPeriods os started H enc)
/-- The tied card. -/
theorem holds_FnPeriods : Rows.FnPeriodsCardSaid :=
  Claim7.holds_tied_plain_at .later [] Rows.fnPeriodsCard.laidKinds true Rows.fnPeriodsCard.stood.harness true
    over_FnPeriods (fun _ h => by cases h) (by kernel_rfl) (fun _ h => by cases h) fnPeriods_row_tie rfl ⟨rfl, rfl⟩ (by kernel_rfl) (by kernel_rfl)
    (fun f fn hf hfn => by
      obtain rfl : f = 3 := Option.some.inj ((show Tryd.prog.funcNamed Rows.fnPeriodsRow.func = some 3 by kernel_rfl).symm.trans hf) |>.symm
      obtain rfl : fn = Tryd.f3 := (Option.some.inj (Tryd.func3.symm.trans hfn)).symm
      refine ⟨by kernel_rfl, fun j t ht => ?_⟩
      have hall : (Tryd.f3.params.toList.all fun u => !Tryd.prog.wantsStandIn u) = true := by kernel_rfl
      have hm : t ∈ Tryd.f3.params.toList := by
        rw [← Array.getElem?_toList] at ht
        exact List.mem_of_getElem? ht
      exact (show Tryd.prog.wantsStandIn t = false by simpa using List.all_eq_true.1 hall t hm))
    (by kernel_rfl)
#print axioms holds_FnPeriods

end Go.Proofs.YtibbokllongomaaDoor
