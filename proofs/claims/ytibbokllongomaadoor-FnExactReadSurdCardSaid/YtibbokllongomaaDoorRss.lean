/-
  ReadSurd of the reference.
-/
import Derived.Test.YtibbokllongomaaDoorRsi
import Derived.Test.YtibbokllongomaaDoorSs
import Derived.Test.YtibbokllongomaaDoorRe
import Derived.Laws.BitsLemmas
namespace Go.Proofs.YtibbokllongomaaDoor
open Go.RowKit

theorem sM_len {l : List UInt8} (h : (spL 47 l).length ≠ 2) : sM l = none := by
  unfold sM
  split
  · rename_i hw
    rw [hw] at h; exact absurd rfl h
  · rfl
theorem m2_none {α : Type} : ∀ (W : List (List UInt8)), W.length ≠ 2 → ∀ f : List UInt8 → List UInt8 → Option α, (match W with | [v0, v1] => f v0 v1 | _ => none) = none
  | [], _, _ => rfl
  | [_], _, _ => rfl
  | [_, _], h, _ => absurd rfl h
  | _ :: _ :: _ :: _, _, _ => rfl
theorem byteV_ne {a b : UInt8} (h : ¬ a = b) : ((a.toNat : Int) != (b.toNat : Int)) = true := by
  rw [bne_iff_ne]
  intro e
  exact h (UInt8.toNat_inj.1 (by omega))
theorem wrap_fit {n : Int} (h1 : -9223372036854775808 ≤ n) (h2 : n ≤ 9223372036854775807) : IntKind.i64.wrap n = n := by rw [IntKind.wrap_i64]; omega
theorem last_list {s : ByteArray} {m : Nat} (h : m < s.size) (hm : m + 1 = s.size) : s.data.toList.getLast? = some s[m] := by
  rw [List.getLast?_eq_getElem?, ← size_list, show s.size - 1 = m by omega, List.getElem?_eq_getElem (by rw [← size_list]; exact h)]; rfl
set_option maxHeartbeats 8000000 in
set_option maxRecDepth 100000 in
theorem readSurdS_any (s : ByteArray) (hs : s.size ≤ 1048576) (w : World) : Calls Tryd.prog 35 #[.string s] w (Ret w (rsV (sM s.data.toList))) := by
  obtain ⟨R, hR⟩ : ∃ R, sM s.data.toList = R := ⟨_, rfl⟩
  rw [hR]
  have hl := spB_list 47 s
  obtain ⟨z1, z2⟩ := spB_sizes 47 s
  have hn1 : 1 ≤ (spB 47 s).length := by rw [spB_len, sp_len]; omega
  have hlen : sM s.data.toList = R := hR
  have kS : ∀ w, Calls Tryd.prog 71 #[.string s, .int .u8 47] w (RetRow w 9 1 (spB 47 s).length (strs (spB 47 s))) := fun w => l01Split_any s (by omega) 47 w
  have hno : (spB 47 s).length ≠ 2 → R = none := fun h => by rw [← hR]; exact sM_len (by rw [← spB_len]; exact h)
  unfold sM at hR
  rw [← hl] at hR
  generalize spB 47 s = ws at *
  clear hl hlen
  have HR := Lib.hid hR
  have Z2 := Lib.hid z2
  clear hR z2
  go_enter Tryd.func35, Tryd.ntmps35
  go_wp2_with fail
  apply Calls.mono
  · with_reducible exact kS _
  rintro _ w1 ⟨vW, rfl, hoW, h1⟩
  obtain ⟨g, o, c, rfl, hW, hg1, hn, hnc, hcm⟩ := WrdAt.of_own hoW hn1
  rw [World.size_alloc] at hg1
  have V1 := bthen ((Below.refl w.heap.size w).alloc (Nat.le_refl _) (.cells #[.int .i64 0, .int .i64 0, .int .i64 0] 28)) h1 (by rw [World.size_alloc]; omega)
  have B1 := (Blk.new w 28 #[.int .i64 0, .int .i64 0, .int .i64 0]).below h1 (Blk.new w 28 #[.int .i64 0, .int .i64 0, .int .i64 0]).lt
  have hc' : (c : Int) ≤ 9223372036854775807 := by omega
  clear h1 kS hoW hn
  by_cases h2 : ws.length = 2
  · obtain ⟨x0, x1, rfl⟩ : ∃ x0 x1, ws = [x0, x1] := by
      cases ws with
      | nil => simp at h2
      | cons x0 r => cases r with
        | nil => simp at h2
        | cons x1 r => cases r with
          | nil => exact ⟨x0, x1, rfl⟩
          | cons _ _ => simp at h2
    have k0 : w1.cell? ⟨g, o, none⟩ = some (.string x0) := by simpa using hW.2 0 x0 rfl
    have k1 : w1.cell? ⟨g, o + 1, none⟩ = some (.string x1) := hW.2 1 x1 rfl
    have hgl := hW.1
    have hx0 := Z2.out x0 (by simp)
    have hx1 := Z2.out x1 (by simp)
    clear h2 Z2 hn1 z1 hno
    have hRs : R = (if x0.data.toList.length < 2 ∨ x0.data.toList.head? ≠ some 40 ∨ x0.data.toList.getLast? ≠ some 41 then none else
        match spL 114 ((x0.data.toList.take (x0.data.toList.length - 1)).drop 1) with
        | [v0, v1] => if v0.length < 1 ∨ v0.getLast? ≠ some 43 then none else
          match rdM (v0.take (v0.length - 1)), rdM v1, rdM x1.data.toList with
          | some p, some d, some q => if okS p d q then some (p, d, q) else none
          | _, _, _ => none
        | _ => none) := HR.out.symm
    have HS := Lib.hid hRs
    clear HR hRs
    by_cases ha : x0.size < 2
    · have ha' : decide ((x0.size : Int) < 2) = true := by rw [decide_eq_true_eq]; omega
      obtain rfl : R = none := by rw [HS.out, if_pos (.inl (by rw [← size_list]; exact ha))]
      clear HS
      have c0 := B1.cell 0
      have c1 := B1.cell 1
      have c2 := B1.cell 2
      have f0 := B1.frozen 0
      have f1 := B1.frozen 1
      have f2 := B1.frozen 2
      have z0 := B1.lt
      clear B1 hW
      go_wp2_with fail
      go_region
      all_goals go_wp2
      all_goals refine bodyPost_ret (by simp [results, Tryd.results35, go_sem, *]; try rfl) rfl ?_
      all_goals
        refine ⟨rfl, ?_⟩
        repeat' (first | (with_reducible exact Below.refl _ _) | (with_reducible assumption) | (with_reducible refine Below.alloc ?_ ?_ _) | (with_reducible refine Below.drew ?_) | (with_reducible refine bdrewN ?_ _) | (with_reducible refine Below.setCell ?_ ?_ _) | (with_reducible refine bthen ?_ (by assumption) ?_) | go_size)
    · have ha' : decide ((x0.size : Int) < 2) = false := by rw [decide_eq_false_iff_not]; omega
      have ha0 : 0 < x0.size := by omega
      have hhd := head_list ha0
      by_cases hb : x0[0] = 40
      · obtain ⟨m, hm⟩ : ∃ m, m + 1 = x0.size := ⟨x0.size - 1, by omega⟩
        have hml : m < x0.size := by omega
        have hmi : (m : Int) < (x0.size : Int) := by omega
        have hls := last_list hml hm
        have hwm : IntKind.i64.wrap ((x0.size : Int) - 1) = (m : Int) := by rw [wrap_fit (by omega) (by omega)]; omega
        have hsm : (x0.size : Int) - 1 = (m : Int) := by omega
        have hm1 : 1 ≤ m := by omega
        have hm1i : (1 : Int) ≤ (m : Int) := by omega
        by_cases he : x0[m] = 41
        · have hMl : (x0.extract 1 m).data.toList = (x0.data.toList.take (x0.data.toList.length - 1)).drop 1 := by
            rw [ext_list, ← size_list, List.drop_take]
            congr 1; omega
          have hg : ¬ (x0.data.toList.length < 2 ∨ x0.data.toList.head? ≠ some 40 ∨ x0.data.toList.getLast? ≠ some 41) := by
            intro x
            rcases x with x | x | x
            · rw [← size_list] at x; exact ha x
            · exact x (by rw [hhd, hb])
            · exact x (by rw [hls, he])
          have hR2 := HS.out
          rw [if_neg hg, ← hMl] at hR2
          clear HS hg hMl
          have hMs : (x0.extract 1 m).size ≤ 1048576 := by rw [ByteArray.size_extract]; omega
          obtain ⟨y1, y2⟩ := spB_sizes 114 (x0.extract 1 m)
          have hn2 : 1 ≤ (spB 114 (x0.extract 1 m)).length := by rw [spB_len, sp_len]; omega
          have hl2 := spB_list 114 (x0.extract 1 m)
          have kV0 : ∀ w, Calls Tryd.prog 71 #[.string (x0.extract 1 m), .int .u8 114] w (RetRow w 9 1 (spB 114 (x0.extract 1 m)).length (strs (spB 114 (x0.extract 1 m)))) := fun w => l01Split_any _ (by omega) 114 w
          have hno : (spB 114 (x0.extract 1 m)).length ≠ 2 → R = none := fun h => by
            rw [hR2]
            exact m2_none _ (by rw [← spB_len]; exact h) _
          rw [← hl2] at hR2
          generalize spB 114 (x0.extract 1 m) = ws at *
          have HS := Lib.hid hR2
          have HNO := Lib.hid hno
          have Y2 := Lib.hid y2
          clear hR2 hno hl2 y2
          have kV : ∀ wx, Below w1.heap.size w1 wx → Calls Tryd.prog 71 #[.string (x0.extract 1 m), .int .u8 114] wx (fun e w3 => ∃ (g2 o2 c2 : Nat), e = .returned (.slice (some ⟨g2, o2, none⟩) ws.length c2) ∧ ws.length ≤ c2 ∧ (c2 : Int) ≤ 9223372036854775807 ∧ WrdAt w3 g2 o2 ws ∧ WrdAt w3 g o [x0, x1] ∧ Blk w3 w.heap.size 28 #[.int .i64 0, .int .i64 0, .int .i64 0] ∧ Below w.heap.size w w3) := by
            intro wx hx
            refine (kV0 wx).mono ?_
            rintro _ w3 ⟨v, rfl, ho, h3⟩
            obtain ⟨g2, o2, c2, rfl, hU, _, _, q1, q2⟩ := WrdAt.of_own ho hn2
            exact ⟨g2, o2, c2, rfl, q1, by omega, hU, (hW.below hx).below h3, (B1.below hx B1.lt).below h3 (B1.below hx B1.lt).lt, bthen (bthen V1 hx V1.size) h3 (bthen V1 hx V1.size).size⟩
          have hs1 : ¬ ((m : Int) < 1) := by omega
          have hm0 : 0 < m := by omega
          have hwm2 : IntKind.i64.wrap (m : Int) = (m : Int) := wrap_fit (by omega) (by omega)
          have hwr1 : IntKind.i64.wrap 1 = 1 := by decide
          have hms : ¬ ((x0.size : Int) < (m : Int)) := by omega
          have hms1 : ¬ ((m : Int) < 1) := by omega
          have hmle : (m : Int) ≤ (x0.size : Int) := by omega
          have hmln : m ≤ x0.size := by omega
          clear kV0 hls hhd V1 B1 hW
          have hgo := hgl
          go_wp2_with fail
          go_region
          go_upto_region 4 with fail
          go_cut [5] from 44 (fun s5 wx => ∃ (g2 o2 c2 : Nat), s5 = .slice (some ⟨g2, o2, none⟩) ws.length c2 ∧ ws.length ≤ c2 ∧ (c2 : Int) ≤ 9223372036854775807 ∧ WrdAt wx g2 o2 ws ∧ WrdAt wx g o [x0, x1] ∧ Blk wx w.heap.size 28 #[.int .i64 0, .int .i64 0, .int .i64 0] ∧ Below w.heap.size w wx)
          case first =>
            go_region_with (go_at_call 71; refine (kV _ ?_).mono ?_; (first | exact Below.refl _ _ | exact (Below.refl _ _).drew | exact ((Below.refl _ _).drew).drew); rintro _ w3 ⟨g2, o2, c2, rfl, q1, q2, U3, W3, B3, V3⟩)
            all_goals go_wp2_with fail
            all_goals go_meet
            all_goals exact ⟨_, _, _, rfl, q1, q2, U3, W3, B3, V3⟩
          case rest =>
            obtain ⟨g2, o2, c2, rfl, q1, q2, U3, W3, B3, V3⟩ := hcut
            clear kV k0 k1 hgl hgo
            have hgl2 := U3.1
            by_cases hw2 : ws.length = 2
            · obtain ⟨v0, v1, rfl⟩ : ∃ v0 v1, ws = [v0, v1] := by
                cases ws with
                | nil => simp at hw2
                | cons v0 r => cases r with
                  | nil => simp at hw2
                  | cons v1 r => cases r with
                    | nil => exact ⟨v0, v1, rfl⟩
                    | cons _ _ => simp at hw2
              have j0 : wc.cell? ⟨g2, o2, none⟩ = some (.string v0) := by simpa using U3.2 0 v0 rfl
              have j1 : wc.cell? ⟨g2, o2 + 1, none⟩ = some (.string v1) := U3.2 1 v1 rfl
              have hv0 := Y2.out v0 (by simp)
              have hv1 := Y2.out v1 (by simp)
              have hRt : R = (if v0.data.toList.length < 1 ∨ v0.data.toList.getLast? ≠ some 43 then none else
                    match rdM (v0.data.toList.take (v0.data.toList.length - 1)), rdM v1.data.toList, rdM x1.data.toList with
                    | some p, some d, some q => if okS p d q then some (p, d, q) else none
                    | _, _, _ => none) := HS.out
              have HT := Lib.hid hRt
              clear HS hRt Y2 hw2 y1 hn2 HNO
              by_cases hz : v0.size < 1
              · have hz' : decide ((v0.size : Int) < 1) = true := by rw [decide_eq_true_eq]; omega
                obtain rfl : R = none := by rw [HT.out, if_pos (.inl (by rw [← size_list]; exact hz))]
                clear HT
                have c0 := B3.cell 0
                have f0 := B3.frozen 0
                have c1 := B3.cell 1
                have f1 := B3.frozen 1
                have c2 := B3.cell 2
                have f2 := B3.frozen 2
                have z0 := B3.lt
                clear B3 U3 W3
                go_wp2_with fail
                go_region
                all_goals go_wp2
                all_goals refine bodyPost_ret (by simp [results, Tryd.results35, go_sem, *]; try rfl) rfl ?_
                all_goals
                  refine ⟨rfl, ?_⟩
                  repeat' (first | (with_reducible exact Below.refl _ _) | (with_reducible assumption) | (with_reducible refine Below.alloc ?_ ?_ _) | (with_reducible refine Below.drew ?_) | (with_reducible refine bdrewN ?_ _) | (with_reducible refine Below.setCell ?_ ?_ _) | (with_reducible refine bthen ?_ (by assumption) ?_) | go_size)
              · have hz' : decide ((v0.size : Int) < 1) = false := by rw [decide_eq_false_iff_not]; omega
                obtain ⟨m2, hm2⟩ : ∃ m, m + 1 = v0.size := ⟨v0.size - 1, by omega⟩
                have hml2 : m2 < v0.size := by omega
                have hmi2 : (m2 : Int) < (v0.size : Int) := by omega
                have hls2 := last_list hml2 hm2
                have hwn : IntKind.i64.wrap ((v0.size : Int) - 1) = (m2 : Int) := by rw [wrap_fit (by omega) (by omega)]; omega
                have hsn : (v0.size : Int) - 1 = (m2 : Int) := by omega
                by_cases hp : v0[m2] = 43
                · have hg2 : ¬ (v0.data.toList.length < 1 ∨ v0.data.toList.getLast? ≠ some 43) := by
                    intro x
                    rcases x with x | x
                    · rw [← size_list] at x; exact hz x
                    · exact x (by rw [hls2, hp])
                  have hFl : (v0.extract 0 m2).data.toList = v0.data.toList.take (v0.data.toList.length - 1) := by
                    rw [ext_list, ← size_list, List.drop_zero]
                    congr 1; omega
                  have hR3 := HT.out
                  rw [if_neg hg2, ← hFl] at hR3
                  clear HT hg2 hFl hls2
                  have hFs : (v0.extract 0 m2).size ≤ 2000000 := by rw [ByteArray.size_extract]; omega
                  have kA : ∀ wx, Calls Tryd.prog 72 #[.string (v0.extract 0 m2)] wx (Ret wx (rdV (v0.extract 0 m2).data.toList)) := fun wx => l01Number_any _ hFs wx
                  have kB : ∀ wx, Calls Tryd.prog 72 #[.string v1] wx (Ret wx (rdV v1.data.toList)) := fun wx => l01Number_any _ (by omega) wx
                  have kC : ∀ wx, Calls Tryd.prog 72 #[.string x1] wx (Ret wx (rdV x1.data.toList)) := fun wx => l01Number_any _ (by omega) wx
                  unfold rdV at kA kB kC
                  generalize rdM (v0.extract 0 m2).data.toList = r1 at *
                  generalize rdM v1.data.toList = r2 at *
                  generalize rdM x1.data.toList = r3 at *
                  have hRR : R = if (r1.isSome && r2.isSome && r3.isSome) = true then (if okS (r1.getD 0) (r2.getD 0) (r3.getD 0) = true then some (r1.getD 0, r2.getD 0, r3.getD 0) else none) else none := by
                    rw [hR3]
                    cases r1 <;> cases r2 <;> cases r3 <;> rfl
                  clear hR3
                  generalize r1.getD 0 = p at *
                  generalize r2.getD 0 = d at *
                  generalize r3.getD 0 = q at *
                  generalize r1.isSome = o1 at *
                  generalize r2.isSome = o2' at *
                  generalize r3.isSome = o3 at *
                  have HRR := Lib.hid hRR
                  clear hRR
                  have kA2 : ∀ wx, Below wc.heap.size wc wx → Calls Tryd.prog 72 #[.string (v0.extract 0 m2)] wx (fun e w5 => e = .returned (.tuple #[.int .i64 p, .bool o1]) ∧ WrdAt w5 g2 o2 [v0, v1] ∧ WrdAt w5 g o [x0, x1] ∧ Blk w5 w.heap.size 28 #[.int .i64 0, .int .i64 0, .int .i64 0] ∧ Below w.heap.size w w5) := by
                    intro wx hx
                    refine (kA wx).mono ?_
                    rintro _ w5 ⟨rfl, h5⟩
                    exact ⟨rfl, (U3.below hx).below h5, (W3.below hx).below h5, (B3.below hx B3.lt).below h5 (B3.below hx B3.lt).lt, bthen (bthen V3 hx V3.size) h5 (bthen V3 hx V3.size).size⟩
                  have hmn0 : 0 ≤ m2 := Nat.zero_le _
                  have hmn1 : (0 : Int) ≤ (m2 : Int) := by omega
                  have hmn2 : (m2 : Int) ≤ (v0.size : Int) := by omega
                  have hmn3 : m2 ≤ v0.size := by omega
                  have hwn2 : IntKind.i64.wrap (m2 : Int) = (m2 : Int) := wrap_fit (by omega) (by omega)
                  have hmn4 : ¬ ((v0.size : Int) < (m2 : Int)) := by omega
                  have hmn5 : ¬ ((m2 : Int) < 0) := by omega
                  clear U3 W3 B3 V3 kA
                  go_wp2_with fail
                  go_region
                  go_upto_region 7 with fail
                  go_cut [6, 7] from 78 (fun s6 s7 wx => s6 = .int .i64 p ∧ s7 = .bool o1 ∧ WrdAt wx g2 o2 [v0, v1] ∧ WrdAt wx g o [x0, x1] ∧ Blk wx w.heap.size 28 #[.int .i64 0, .int .i64 0, .int .i64 0] ∧ Below w.heap.size w wx)
                  case first =>
                    go_region_with (go_at_call 72; refine (kA2 _ ?_).mono ?_; (first | exact Below.refl _ _ | exact (Below.refl _ _).drew | exact ((Below.refl _ _).drew).drew); rintro _ w5 ⟨rfl, U5, W5, B5, V5⟩)
                    all_goals go_wp2_with fail
                    all_goals go_meet
                    all_goals exact ⟨rfl, rfl, U5, W5, B5, V5⟩
                  case rest =>
                    obtain ⟨rfl, rfl, U5, W5, B5, V5⟩ := hcut
                    clear kA2 j0 j1 hgl2
                    have l1 : wc.cell? ⟨g2, o2 + 1, none⟩ = some (.string v1) := U5.2 1 v1 rfl
                    have hg5 := U5.1
                    go_wp2_with fail
                    apply Calls.mono
                    · with_reducible exact kB _
                    rintro _ w6 ⟨rfl, h6⟩
                    have W6 := W5.below h6
                    have B6 := B5.below h6 B5.lt
                    have V6 := bthen V5 h6 V5.size
                    have l2 : w6.cell? ⟨g, o + 1, none⟩ = some (.string x1) := W6.2 1 x1 rfl
                    have hg6 := W6.1
                    clear kB l1 hg5 U5 W5 B5 V5 h6
                    go_wp2_with fail
                    apply Calls.mono
                    · with_reducible exact kC _
                    rintro _ w7 ⟨rfl, h7⟩
                    have B7 := B6.below h7 B6.lt
                    have V7 := bthen V6 h7 V6.size
                    clear kC l2 hg6 W6 B6 V6 h7
                    have N7 := Blk.new w7 28 #[.int .i64 p, .int .i64 d, .int .i64 q]
                    have V8 := V7.alloc V7.size (.cells #[.int .i64 p, .int .i64 d, .int .i64 q] 28)
                    have B8 := B7.alloc (.cells #[.int .i64 p, .int .i64 d, .int .i64 q] 28)
                    have hne : w.heap.size ≠ w7.heap.size := by have := B7.lt; omega
                    have hne' : w7.heap.size ≠ w.heap.size := hne.symm
                    have n0 := N7.cell 0
                    have n1 := N7.cell 1
                    have n2 := N7.cell 2
                    have nz := N7.lt
                    clear V7 B7
                    go_upto_region 11 with fail
                    cases o1
                    · obtain rfl : R = none := by rw [HRR.out]; simp
                      clear HRR
                      have c0 := B8.cell 0
                      have f0 := B8.frozen 0
                      have c1 := B8.cell 1
                      have f1 := B8.frozen 1
                      have c2 := B8.cell 2
                      have f2 := B8.frozen 2
                      have z0 := B8.lt
                      clear B8
                      go_wp2
                      refine bodyPost_ret (by simp [results, Tryd.results35, go_sem, *]; try rfl) rfl ?_
                      refine ⟨rfl, ?_⟩
                      repeat' (first | (with_reducible exact Below.refl _ _) | (with_reducible assumption) | (with_reducible refine Below.alloc ?_ ?_ _) | (with_reducible refine Below.drew ?_) | (with_reducible refine bdrewN ?_ _) | (with_reducible refine Below.setCell ?_ ?_ _) | (with_reducible refine bthen ?_ (by assumption) ?_) | go_size)
                    cases o2'
                    · obtain rfl : R = none := by rw [HRR.out]; simp
                      clear HRR
                      have c0 := B8.cell 0
                      have f0 := B8.frozen 0
                      have c1 := B8.cell 1
                      have f1 := B8.frozen 1
                      have c2 := B8.cell 2
                      have f2 := B8.frozen 2
                      have z0 := B8.lt
                      clear B8
                      go_wp2
                      refine bodyPost_ret (by simp [results, Tryd.results35, go_sem, *]; try rfl) rfl ?_
                      refine ⟨rfl, ?_⟩
                      repeat' (first | (with_reducible exact Below.refl _ _) | (with_reducible assumption) | (with_reducible refine Below.alloc ?_ ?_ _) | (with_reducible refine Below.drew ?_) | (with_reducible refine bdrewN ?_ _) | (with_reducible refine Below.setCell ?_ ?_ _) | (with_reducible refine bthen ?_ (by assumption) ?_) | go_size)
                    cases o3
                    · obtain rfl : R = none := by rw [HRR.out]; simp
                      clear HRR
                      have c0 := B8.cell 0
                      have f0 := B8.frozen 0
                      have c1 := B8.cell 1
                      have f1 := B8.frozen 1
                      have c2 := B8.cell 2
                      have f2 := B8.frozen 2
                      have z0 := B8.lt
                      clear B8
                      go_wp2
                      refine bodyPost_ret (by simp [results, Tryd.results35, go_sem, *]; try rfl) rfl ?_
                      refine ⟨rfl, ?_⟩
                      repeat' (first | (with_reducible exact Below.refl _ _) | (with_reducible assumption) | (with_reducible refine Below.alloc ?_ ?_ _) | (with_reducible refine Below.drew ?_) | (with_reducible refine bdrewN ?_ _) | (with_reducible refine Below.setCell ?_ ?_ _) | (with_reducible refine bthen ?_ (by assumption) ?_) | go_size)
                    cases hk : okS p d q
                    · have kO := fun wx => l07Ok_any p d q false hk wx
                      obtain rfl : R = none := by rw [HRR.out, hk]; simp
                      clear HRR hk
                      go_wp2_with fail
                      apply Calls.mono
                      · with_reducible exact kO _
                      rintro _ w9 ⟨rfl, h9⟩
                      have B9 := B8.below h9 B8.lt
                      have V9 := bthen V8 h9 V8.size
                      clear B8 V8 h9 kO N7
                      have c0 := B9.cell 0
                      have f0 := B9.frozen 0
                      have c1 := B9.cell 1
                      have f1 := B9.frozen 1
                      have c2 := B9.cell 2
                      have f2 := B9.frozen 2
                      have z0 := B9.lt
                      clear B9
                      go_wp2
                      refine bodyPost_ret (by simp [results, Tryd.results35, go_sem, *]; try rfl) rfl ?_
                      refine ⟨rfl, ?_⟩
                      repeat' (first | (with_reducible exact Below.refl _ _) | (with_reducible assumption) | (with_reducible refine Below.alloc ?_ ?_ _) | (with_reducible refine Below.drew ?_) | (with_reducible refine bdrewN ?_ _) | (with_reducible refine Below.setCell ?_ ?_ _) | (with_reducible refine bthen ?_ (by assumption) ?_) | go_size)
                    · have kO := fun wx => l07Ok_any p d q true hk wx
                      obtain rfl : R = some (p, d, q) := by rw [HRR.out, hk]; simp
                      clear HRR hk
                      go_wp2_with fail
                      apply Calls.mono
                      · with_reducible exact kO _
                      rintro _ w9 ⟨rfl, h9⟩
                      have B9 := B8.below h9 B8.lt
                      have V9 := bthen V8 h9 V8.size
                      have N9 := N7.below h9 N7.lt
                      have n0 := N9.cell 0
                      have n1 := N9.cell 1
                      have n2 := N9.cell 2
                      have nz := N9.lt
                      clear B8 V8 h9 kO N7 N9
                      have c0 := B9.cell 0
                      have f0 := B9.frozen 0
                      have c1 := B9.cell 1
                      have f1 := B9.frozen 1
                      have c2 := B9.cell 2
                      have f2 := B9.frozen 2
                      have z0 := B9.lt
                      clear B9
                      go_wp2
                      refine bodyPost_ret (by simp [results, Tryd.results35, go_sem, *]; try rfl) rfl ?_
                      refine ⟨rfl, ?_⟩
                      repeat' (first | (with_reducible exact Below.refl _ _) | (with_reducible assumption) | (with_reducible refine Below.alloc ?_ ?_ _) | (with_reducible refine Below.drew ?_) | (with_reducible refine bdrewN ?_ _) | (with_reducible refine Below.setCell ?_ ?_ _) | (with_reducible refine bthen ?_ (by assumption) ?_) | go_size)
                · have hp' : ((v0[m2].toNat : Int) != 43) = true := byteV_ne hp
                  obtain rfl : R = none := by rw [HT.out, if_pos (.inr (by rw [hls2]; intro e; injection e with e; exact hp e))]
                  clear HT
                  have c0 := B3.cell 0
                  have f0 := B3.frozen 0
                  have c1 := B3.cell 1
                  have f1 := B3.frozen 1
                  have c2 := B3.cell 2
                  have f2 := B3.frozen 2
                  have z0 := B3.lt
                  clear B3 U3 W3
                  go_wp2_with fail
                  go_region
                  all_goals go_wp2
                  all_goals refine bodyPost_ret (by simp [results, Tryd.results35, go_sem, *]; try rfl) rfl ?_
                  all_goals
                    refine ⟨rfl, ?_⟩
                    repeat' (first | (with_reducible exact Below.refl _ _) | (with_reducible assumption) | (with_reducible refine Below.alloc ?_ ?_ _) | (with_reducible refine Below.drew ?_) | (with_reducible refine bdrewN ?_ _) | (with_reducible refine Below.setCell ?_ ?_ _) | (with_reducible refine bthen ?_ (by assumption) ?_) | go_size)
            · obtain rfl := HNO.out hw2
              have hw2' : ((ws.length : Int) != 2) = true := by rw [bne_iff_ne]; omega
              have c0 := B3.cell 0
              have f0 := B3.frozen 0
              have c1 := B3.cell 1
              have f1 := B3.frozen 1
              have c2 := B3.cell 2
              have f2 := B3.frozen 2
              have z0 := B3.lt
              clear B3 U3 W3 HS HNO Y2
              go_wp2_with fail
              go_region
              all_goals go_wp2
              all_goals refine bodyPost_ret (by simp [results, Tryd.results35, go_sem, *]; try rfl) rfl ?_
              all_goals
                refine ⟨rfl, ?_⟩
                repeat' (first | (with_reducible exact Below.refl _ _) | (with_reducible assumption) | (with_reducible refine Below.alloc ?_ ?_ _) | (with_reducible refine Below.drew ?_) | (with_reducible refine bdrewN ?_ _) | (with_reducible refine Below.setCell ?_ ?_ _) | (with_reducible refine bthen ?_ (by assumption) ?_) | go_size)
        · have he' : ((x0[m].toNat : Int) != 41) = true := byteV_ne he
          obtain rfl : R = none := by rw [HS.out, if_pos (.inr (.inr (by rw [hls]; intro e; injection e with e; exact he e)))]
          have c0 := B1.cell 0
          have c1 := B1.cell 1
          have c2 := B1.cell 2
          have f0 := B1.frozen 0
          have f1 := B1.frozen 1
          have f2 := B1.frozen 2
          have z0 := B1.lt
          clear B1 hW HS
          go_wp2_with fail
          go_region
          all_goals go_wp2
          all_goals refine bodyPost_ret (by simp [results, Tryd.results35, go_sem, *]; try rfl) rfl ?_
          all_goals
            refine ⟨rfl, ?_⟩
            repeat' (first | (with_reducible exact Below.refl _ _) | (with_reducible assumption) | (with_reducible refine Below.alloc ?_ ?_ _) | (with_reducible refine Below.drew ?_) | (with_reducible refine bdrewN ?_ _) | (with_reducible refine Below.setCell ?_ ?_ _) | (with_reducible refine bthen ?_ (by assumption) ?_) | go_size)
      · have hb' : ((x0[0].toNat : Int) != 40) = true := byteV_ne hb
        obtain rfl : R = none := by rw [HS.out, if_pos (.inr (.inl (by rw [hhd]; intro e; injection e with e; exact hb e)))]
        clear HS
        have c0 := B1.cell 0
        have c1 := B1.cell 1
        have c2 := B1.cell 2
        have f0 := B1.frozen 0
        have f1 := B1.frozen 1
        have f2 := B1.frozen 2
        have z0 := B1.lt
        clear B1 hW
        go_wp2_with fail
        go_region
        all_goals go_wp2
        all_goals refine bodyPost_ret (by simp [results, Tryd.results35, go_sem, *]; try rfl) rfl ?_
        all_goals
          refine ⟨rfl, ?_⟩
          repeat' (first | (with_reducible exact Below.refl _ _) | (with_reducible assumption) | (with_reducible refine Below.alloc ?_ ?_ _) | (with_reducible refine Below.drew ?_) | (with_reducible refine bdrewN ?_ _) | (with_reducible refine Below.setCell ?_ ?_ _) | (with_reducible refine bthen ?_ (by assumption) ?_) | go_size)
  · obtain rfl := hno h2
    clear HR
    have h2' : ((ws.length : Int) != 2) = true := by rw [bne_iff_ne]; omega
    have c0 := B1.cell 0
    have c1 := B1.cell 1
    have c2 := B1.cell 2
    have f0 := B1.frozen 0
    have f1 := B1.frozen 1
    have f2 := B1.frozen 2
    have z0 := B1.lt
    clear B1 hW Z2
    go_wp2_with fail
    go_region
    all_goals go_wp2
    all_goals refine bodyPost_ret (by simp [results, Tryd.results35, go_sem, *]; try rfl) rfl ?_
    all_goals
      refine ⟨rfl, ?_⟩
      repeat' (first | (with_reducible exact Below.refl _ _) | (with_reducible assumption) | (with_reducible refine Below.alloc ?_ ?_ _) | (with_reducible refine Below.drew ?_) | (with_reducible refine bdrewN ?_ _) | (with_reducible refine Below.setCell ?_ ?_ _) | (with_reducible refine bthen ?_ (by assumption) ?_) | go_size)
end Go.Proofs.YtibbokllongomaaDoor
