/-
  ReadSurd of the program.
-/
import Derived.Test.YtibbokllongomaaDoorRds
import Derived.Test.YtibbokllongomaaDoorRd
import Derived.Deep.Cut
namespace Go.Proofs.YtibbokllongomaaDoor
open Go.RowKit

/-- What a reading of a surd returns. -/
def rsV (R : Option (Int × Int × Int)) : Value := .tuple #[.agg #[.int .i64 (R.getD (0, 0, 0)).1, .int .i64 (R.getD (0, 0, 0)).2.1, .int .i64 (R.getD (0, 0, 0)).2.2], .bool R.isSome]
theorem cutPre_any (s p : ByteArray) (I : ByteArray) (b : Bool) (hI : (⟨(Lib.trimPrefix s.data.toList p.data.toList).toArray⟩ : ByteArray) = I) (hb : Lib.hasPrefix s.data.toList p.data.toList = b) (w : World) : Calls Tryd.prog 65 #[.string s, .string p] w (Ret w (.tuple #[.string I, .bool b])) := by
  subst hI hb
  refine (Tryd.strings_CutPrefix s p w).mono ?_
  rintro _ w' ⟨rfl, rfl⟩
  exact ⟨rfl, Below.refl _ _⟩
theorem cut_any (s p : ByteArray) (hs : s.size ≤ 2000000) (X Y : ByteArray) (b : Bool) (hX : (⟨(Lib.cut s.data.toList p.data.toList).1.toArray⟩ : ByteArray) = X) (hY : (⟨(Lib.cut s.data.toList p.data.toList).2.1.toArray⟩ : ByteArray) = Y) (hb : (Lib.cut s.data.toList p.data.toList).2.2 = b) (w : World) (hw : Rw w) :
    Calls Tryd.prog 66 #[.string s, .string p] w (Ret w (.tuple #[.string X, .string Y, .bool b])) := by
  subst hX hY hb
  obtain ⟨_, ⟨m, hm⟩, _⟩ := hw
  refine (Tryd.strings_Cut s p m w (by omega) hm).mono ?_
  rintro _ w' ⟨rfl, n, rfl⟩
  exact ⟨rfl, bdrewN (Below.refl _ _) _⟩
theorem cut_len (a p : List UInt8) : (Lib.cut a p).1.length ≤ a.length ∧ (Lib.cut a p).2.1.length ≤ a.length := by
  unfold Lib.cut
  split
  · simp only [List.length_take, List.length_drop]; omega
  · simp
theorem trim_len (a p : List UInt8) : (Lib.trimPrefix a p).length ≤ a.length := by
  unfold Lib.trimPrefix
  split
  · simp
  · exact Nat.le_refl _
theorem ba_list (l : List UInt8) : (⟨l.toArray⟩ : ByteArray).data.toList = l := by simp
theorem ba_eq {a b : ByteArray} (h : a.data.toList = b.data.toList) : a = b := by
  cases a; cases b
  simp only [ByteArray.mk.injEq]
  exact Array.toList_inj.1 h
theorem sdM_eq {s : ByteArray} {p d q : Int} (hp : Lib.hasPrefix s.data.toList [40] = true) : sdM p d q = s ↔ okS p d q = true ∧ sdL p d q = s.data.toList := by
  constructor
  · intro h
    cases hk : okS p d q
    · exfalso
      have : sdM p d q = ⟨#[]⟩ := by unfold sdM; rw [hk]; rfl
      rw [this] at h
      rw [← h] at hp
      revert hp; decide
    · refine ⟨rfl, ?_⟩
      have : sdM p d q = sdT p d q := by unfold sdM; rw [hk]; rfl
      rw [this] at h
      rw [← sdT_list, h]
  · rintro ⟨h1, h2⟩
    have : sdM p d q = sdT p d q := by unfold sdM; rw [h1]; rfl
    rw [this]
    exact ba_eq (by rw [sdT_list, h2])
set_option maxHeartbeats 8000000 in
set_option maxRecDepth 100000 in
theorem readSurdI_any (s : ByteArray) (hs : s.size ≤ 1048576) (w : World) (hw : Rw w) : Calls Tryd.prog 31 #[.string s] w (Ret w (rsV (iM s.data.toList))) := by
  obtain ⟨I, hI⟩ : ∃ I : ByteArray, ⟨(Lib.trimPrefix s.data.toList [40]).toArray⟩ = I := ⟨_, rfl⟩
  have hIl : I.data.toList = Lib.trimPrefix s.data.toList [40] := by rw [← hI]
  have hIs : I.size ≤ s.size := by rw [size_list, size_list, hIl]; exact trim_len _ _
  obtain ⟨T, hT⟩ : ∃ T : ByteArray, ⟨(Lib.cut I.data.toList [41, 47]).1.toArray⟩ = T := ⟨_, rfl⟩
  obtain ⟨U, hU⟩ : ∃ U : ByteArray, ⟨(Lib.cut I.data.toList [41, 47]).2.1.toArray⟩ = U := ⟨_, rfl⟩
  have hTl : T.data.toList = (Lib.cut I.data.toList [41, 47]).1 := by rw [← hT]
  have hUl : U.data.toList = (Lib.cut I.data.toList [41, 47]).2.1 := by rw [← hU]
  have hTs : T.size ≤ s.size := by rw [size_list, hTl]; have := (cut_len I.data.toList [41, 47]).1; rw [← size_list] at this; omega
  have hUs : U.size ≤ s.size := by rw [size_list, hUl]; have := (cut_len I.data.toList [41, 47]).2; rw [← size_list] at this; omega
  obtain ⟨F, hF⟩ : ∃ F : ByteArray, ⟨(Lib.cut T.data.toList [43, 114]).1.toArray⟩ = F := ⟨_, rfl⟩
  obtain ⟨G, hG⟩ : ∃ G : ByteArray, ⟨(Lib.cut T.data.toList [43, 114]).2.1.toArray⟩ = G := ⟨_, rfl⟩
  have hFl : F.data.toList = (Lib.cut T.data.toList [43, 114]).1 := by rw [← hF]
  have hGl : G.data.toList = (Lib.cut T.data.toList [43, 114]).2.1 := by rw [← hG]
  have hFs : F.size ≤ s.size := by rw [size_list, hFl]; have := (cut_len T.data.toList [43, 114]).1; rw [← size_list] at this; omega
  have hGs : G.size ≤ s.size := by rw [size_list, hGl]; have := (cut_len T.data.toList [43, 114]).2; rw [← size_list] at this; omega
  obtain ⟨b0, hb0⟩ : ∃ b, Lib.hasPrefix s.data.toList [40] = b := ⟨_, rfl⟩
  obtain ⟨b1, hb1⟩ : ∃ b, (Lib.cut I.data.toList [41, 47]).2.2 = b := ⟨_, rfl⟩
  obtain ⟨b2, hb2⟩ : ∃ b, (Lib.cut T.data.toList [43, 114]).2.2 = b := ⟨_, rfl⟩
  have k0 := fun w => cutPre_any s ⟨#[40]⟩ I b0 hI hb0 w
  have k1 := fun w h => cut_any I ⟨#[41, 47]⟩ (by omega) T U b1 hT hU hb1 w h
  have k2 := fun w h => cut_any T ⟨#[43, 114]⟩ (by omega) F G b2 hF hG hb2 w h
  have kF := fun w h => readDecimal_any F (by omega) w h
  have kG := fun w h => readDecimal_any G (by omega) w h
  have kU := fun w h => readDecimal_any U (by omega) w h
  obtain ⟨R, hR⟩ : ∃ R, iM s.data.toList = R := ⟨_, rfl⟩
  rw [hR]
  unfold iM at hR
  rw [← hIl, ← hTl, ← hUl, ← hFl, ← hGl, hb0, hb1, hb2] at hR
  unfold rdV at kF kG kU
  generalize rdM F.data.toList = r1 at *
  generalize rdM G.data.toList = r2 at *
  generalize rdM U.data.toList = r3 at *
  have hD := fun p d q => sdM_eq (s := s) (p := p) (d := d) (q := q)
  rw [hb0] at hD
  have HD := Lib.hid hD
  have HR := Lib.hid hR
  have kT := fun p d q w h => surdTextI_any p d q w h
  clear hD hR hI hIl hT hTl hU hUl hF hFl hG hGl hb0 hb1 hb2
  go_enter Tryd.func31, Tryd.ntmps31
  go_wp2_with fail
  apply Calls.mono
  · with_reducible exact k0 _
  rintro _ w1 ⟨rfl, h1⟩
  have V1 := bthen ((Below.refl w.heap.size w).alloc (Nat.le_refl _) (.cells #[.int .i64 0, .int .i64 0, .int .i64 0] 28)) h1 (by rw [World.size_alloc]; omega)
  have B1 := (Blk.new w 28 #[.int .i64 0, .int .i64 0, .int .i64 0]).below h1 (Blk.new w 28 #[.int .i64 0, .int .i64 0, .int .i64 0]).lt
  clear h1 k0
  have R1 := hw.below V1
  go_wp2_with fail
  apply Calls.mono
  · with_reducible exact k1 _ R1
  rintro _ w2 ⟨rfl, h2⟩
  have V2 := bthen V1 h2 V1.size
  have B2 := B1.below h2 B1.lt
  clear R1 V1 B1 h2 k1
  have R2 := hw.below V2
  go_wp2_with fail
  apply Calls.mono
  · with_reducible exact k2 _ R2
  rintro _ w3 ⟨rfl, h3⟩
  have V3 := bthen V2 h3 V2.size
  have B3 := B2.below h3 B2.lt
  clear R2 V2 B2 h3 k2
  have R3 := hw.below V3
  go_wp2_with fail
  apply Calls.mono
  · with_reducible exact kF _ R3
  rintro _ w4 ⟨rfl, h4⟩
  have V4 := bthen V3 h4 V3.size
  have B4 := B3.below h4 B3.lt
  clear R3 V3 B3 h4 kF
  have R4 := hw.below V4
  go_wp2_with fail
  apply Calls.mono
  · with_reducible exact kG _ R4
  rintro _ w5 ⟨rfl, h5⟩
  have V5 := bthen V4 h5 V4.size
  have B5 := B4.below h5 B4.lt
  clear R4 V4 B4 h5 kG
  have R5 := hw.below V5
  go_wp2_with fail
  apply Calls.mono
  · with_reducible exact kU _ R5
  rintro _ w6 ⟨rfl, h6⟩
  have V6 := bthen V5 h6 V5.size
  have B6 := B5.below h6 B5.lt
  clear R5 V5 B5 h6 kU
  have R6 := (hw.below V6).tb
  go_upto_region 8 with fail
  obtain ⟨p, hp⟩ : ∃ p, r1.getD 0 = p := ⟨_, rfl⟩
  obtain ⟨d, hd⟩ : ∃ d, r2.getD 0 = d := ⟨_, rfl⟩
  obtain ⟨q, hq⟩ : ∃ q, r3.getD 0 = q := ⟨_, rfl⟩
  obtain ⟨o1, ho1⟩ : ∃ b, r1.isSome = b := ⟨_, rfl⟩
  obtain ⟨o2, ho2⟩ : ∃ b, r2.isSome = b := ⟨_, rfl⟩
  obtain ⟨o3, ho3⟩ : ∃ b, r3.isSome = b := ⟨_, rfl⟩
  have hRR : R = if (b0 && b1 && b2 && o1 && o2 && o3) = true then (if okS p d q = true ∧ sdL p d q = s.data.toList then some (p, d, q) else none) else none := by
    rw [← HR.out, ← hp, ← hd, ← hq, ← ho1, ← ho2, ← ho3]
    cases b0 <;> cases b1 <;> cases b2 <;> cases r1 <;> cases r2 <;> cases r3 <;> rfl
  rw [hp, hd, hq, ho1, ho2, ho3] at *
  clear hp hd hq ho1 ho2 ho3 HR
  have N6 := Blk.new w6 28 #[.int .i64 p, .int .i64 d, .int .i64 q]
  have V7 := V6.alloc V6.size (.cells #[.int .i64 p, .int .i64 d, .int .i64 q] 28)
  have B7 := B6.alloc (.cells #[.int .i64 p, .int .i64 d, .int .i64 q] 28)
  have hne : w.heap.size ≠ w6.heap.size := by have := B6.lt; omega
  have hne' : w6.heap.size ≠ w.heap.size := hne.symm
  have x0 := N6.cell 0
  have x1 := N6.cell 1
  have x2 := N6.cell 2
  have xz := N6.lt
  have R7 := R6.alloc (.cells #[.int .i64 p, .int .i64 d, .int .i64 q] 28)
  clear V6 B6 R6
  have HRR := Lib.hid hRR
  clear hRR
  cases b0
  · obtain rfl : R = none := by rw [HRR.out]; simp
    clear HRR HD
    have c0 := B7.cell 0
    have f0 := B7.frozen 0
    have c1 := B7.cell 1
    have f1 := B7.frozen 1
    have c2 := B7.cell 2
    have f2 := B7.frozen 2
    have z0 := B7.lt
    clear B7
    go_wp2
    refine bodyPost_ret (by simp [results, Tryd.results31, go_sem, *]; try rfl) rfl ?_
    refine ⟨rfl, ?_⟩
    repeat' (first | (with_reducible exact Below.refl _ _) | (with_reducible assumption) | (with_reducible refine Below.alloc ?_ ?_ _) | (with_reducible refine Below.drew ?_) | (with_reducible refine bdrewN ?_ _) | (with_reducible refine Below.setCell ?_ ?_ _) | (with_reducible refine bthen ?_ (by assumption) ?_) | go_size)
  cases b1
  · obtain rfl : R = none := by rw [HRR.out]; simp
    clear HRR HD
    have c0 := B7.cell 0
    have f0 := B7.frozen 0
    have c1 := B7.cell 1
    have f1 := B7.frozen 1
    have c2 := B7.cell 2
    have f2 := B7.frozen 2
    have z0 := B7.lt
    clear B7
    go_wp2
    refine bodyPost_ret (by simp [results, Tryd.results31, go_sem, *]; try rfl) rfl ?_
    refine ⟨rfl, ?_⟩
    repeat' (first | (with_reducible exact Below.refl _ _) | (with_reducible assumption) | (with_reducible refine Below.alloc ?_ ?_ _) | (with_reducible refine Below.drew ?_) | (with_reducible refine bdrewN ?_ _) | (with_reducible refine Below.setCell ?_ ?_ _) | (with_reducible refine bthen ?_ (by assumption) ?_) | go_size)
  cases b2
  · obtain rfl : R = none := by rw [HRR.out]; simp
    clear HRR HD
    have c0 := B7.cell 0
    have f0 := B7.frozen 0
    have c1 := B7.cell 1
    have f1 := B7.frozen 1
    have c2 := B7.cell 2
    have f2 := B7.frozen 2
    have z0 := B7.lt
    clear B7
    go_wp2
    refine bodyPost_ret (by simp [results, Tryd.results31, go_sem, *]; try rfl) rfl ?_
    refine ⟨rfl, ?_⟩
    repeat' (first | (with_reducible exact Below.refl _ _) | (with_reducible assumption) | (with_reducible refine Below.alloc ?_ ?_ _) | (with_reducible refine Below.drew ?_) | (with_reducible refine bdrewN ?_ _) | (with_reducible refine Below.setCell ?_ ?_ _) | (with_reducible refine bthen ?_ (by assumption) ?_) | go_size)
  cases o1
  · obtain rfl : R = none := by rw [HRR.out]; simp
    clear HRR HD
    have c0 := B7.cell 0
    have f0 := B7.frozen 0
    have c1 := B7.cell 1
    have f1 := B7.frozen 1
    have c2 := B7.cell 2
    have f2 := B7.frozen 2
    have z0 := B7.lt
    clear B7
    go_wp2
    refine bodyPost_ret (by simp [results, Tryd.results31, go_sem, *]; try rfl) rfl ?_
    refine ⟨rfl, ?_⟩
    repeat' (first | (with_reducible exact Below.refl _ _) | (with_reducible assumption) | (with_reducible refine Below.alloc ?_ ?_ _) | (with_reducible refine Below.drew ?_) | (with_reducible refine bdrewN ?_ _) | (with_reducible refine Below.setCell ?_ ?_ _) | (with_reducible refine bthen ?_ (by assumption) ?_) | go_size)
  cases o2
  · obtain rfl : R = none := by rw [HRR.out]; simp
    clear HRR HD
    have c0 := B7.cell 0
    have f0 := B7.frozen 0
    have c1 := B7.cell 1
    have f1 := B7.frozen 1
    have c2 := B7.cell 2
    have f2 := B7.frozen 2
    have z0 := B7.lt
    clear B7
    go_wp2
    refine bodyPost_ret (by simp [results, Tryd.results31, go_sem, *]; try rfl) rfl ?_
    refine ⟨rfl, ?_⟩
    repeat' (first | (with_reducible exact Below.refl _ _) | (with_reducible assumption) | (with_reducible refine Below.alloc ?_ ?_ _) | (with_reducible refine Below.drew ?_) | (with_reducible refine bdrewN ?_ _) | (with_reducible refine Below.setCell ?_ ?_ _) | (with_reducible refine bthen ?_ (by assumption) ?_) | go_size)
  cases o3
  · obtain rfl : R = none := by rw [HRR.out]; simp
    clear HRR HD
    have c0 := B7.cell 0
    have f0 := B7.frozen 0
    have c1 := B7.cell 1
    have f1 := B7.frozen 1
    have c2 := B7.cell 2
    have f2 := B7.frozen 2
    have z0 := B7.lt
    clear B7
    go_wp2
    refine bodyPost_ret (by simp [results, Tryd.results31, go_sem, *]; try rfl) rfl ?_
    refine ⟨rfl, ?_⟩
    repeat' (first | (with_reducible exact Below.refl _ _) | (with_reducible assumption) | (with_reducible refine Below.alloc ?_ ?_ _) | (with_reducible refine Below.drew ?_) | (with_reducible refine bdrewN ?_ _) | (with_reducible refine Below.setCell ?_ ?_ _) | (with_reducible refine bthen ?_ (by assumption) ?_) | go_size)
  obtain ⟨D, hD⟩ : ∃ D, sdM p d q = D := ⟨_, rfl⟩
  have kT2 := kT p d q
  rw [hD] at kT2
  have hk := HD.out p d q rfl
  rw [hD] at hk
  have HK := Lib.hid hk
  clear hk
  go_wp2_with fail
  apply Calls.mono
  · with_reducible exact kT2 _ R7
  rintro _ w8 ⟨rfl, h8⟩
  have V8 := bthen V7 h8 V7.size
  have B8 := B7.below h8 B7.lt
  have N8 := N6.below h8 N6.lt
  have x0 := N8.cell 0
  have x1 := N8.cell 1
  have x2 := N8.cell 2
  have xz := N8.lt
  have c0 := B8.cell 0
  have f0 := B8.frozen 0
  have c1 := B8.cell 1
  have f1 := B8.frozen 1
  have c2 := B8.cell 2
  have f2 := B8.frozen 2
  have z0 := B8.lt
  clear kT kT2 R7 B7 B8 N6 N8 V7 h8 HD
  have hk := HK.out
  have hR2 := HRR.out
  clear HK HRR
  by_cases hs2 : D = s
  · obtain rfl : R = some (p, d, q) := by rw [hR2]; simp only [Bool.and_self, if_true]; rw [if_pos (hk.1 hs2)]
    subst hs2
    clear hk hR2 hD
    go_wp2
    refine bodyPost_ret (by simp [results, Tryd.results31, go_sem, *]; try rfl) rfl ?_
    refine ⟨rfl, ?_⟩
    repeat' (first | (with_reducible exact Below.refl _ _) | (with_reducible assumption) | (with_reducible refine Below.alloc ?_ ?_ _) | (with_reducible refine Below.drew ?_) | (with_reducible refine bdrewN ?_ _) | (with_reducible refine Below.setCell ?_ ?_ _) | (with_reducible refine bthen ?_ (by assumption) ?_) | go_size)
  · obtain rfl : R = none := by rw [hR2]; simp only [Bool.and_self, if_true]; rw [if_neg (fun e => hs2 (hk.2 e))]
    have hbe := be_ne hs2
    clear hk hR2 hD hs2
    go_wp2
    refine bodyPost_ret (by simp [results, Tryd.results31, go_sem, *]; try rfl) rfl ?_
    refine ⟨rfl, ?_⟩
    repeat' (first | (with_reducible exact Below.refl _ _) | (with_reducible assumption) | (with_reducible refine Below.alloc ?_ ?_ _) | (with_reducible refine Below.drew ?_) | (with_reducible refine bdrewN ?_ _) | (with_reducible refine Below.setCell ?_ ?_ _) | (with_reducible refine bthen ?_ (by assumption) ?_) | go_size)
end Go.Proofs.YtibbokllongomaaDoor
