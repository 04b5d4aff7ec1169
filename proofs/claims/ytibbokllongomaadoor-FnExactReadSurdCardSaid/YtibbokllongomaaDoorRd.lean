/-
  ReadDecimal of the program: the number whose decimal text it is.
-/
import Derived.Test.YtibbokllongomaaDoorNum
import Derived.Test.YtibbokllongomaaDoorDec
import Derived.Test.YtibbokllongomaaDoorShelf
namespace Go.Proofs.YtibbokllongomaaDoor
open Go.RowKit

/-- What the library's readers ask of the world: the table, and three variables of the library's own. -/
def Rw (w : World) : Prop := Tb w ∧ (∃ m, w.cell? ⟨1, 0, none⟩ = some (.int .i64 m)) ∧
  (∃ ev, w.cell? ⟨3, 0, none⟩ = some ev ∧ (ev = .nilIface ∨ ∃ te pe, ev = .iface te pe)) ∧
  (∃ ev, w.cell? ⟨4, 0, none⟩ = some ev ∧ (ev = .nilIface ∨ ∃ te pe, ev = .iface te pe))
theorem cell_keep {w w' : World} {a : Addr} {v : Value} (h : w.cell? a = some v) (hb : Below w.heap.size w w') : w'.cell? a = some v := (hb.cell (World.block_lt_of_cell? _ _ h)).trans h
theorem Rw.below {w w' : World} (h : Rw w) (hb : Below w.heap.size w w') : Rw w' := by
  obtain ⟨h1, ⟨m, h2⟩, ⟨e, h3, h3'⟩, f, h4, h4'⟩ := h
  exact ⟨h1.below hb, ⟨m, cell_keep h2 hb⟩, ⟨e, cell_keep h3 hb, h3'⟩, f, cell_keep h4 hb, h4'⟩
theorem Rw.alloc {w : World} (h : Rw w) (o : Obj) : Rw (w.alloc o) := h.below ((Below.refl _ _).alloc (Nat.le_refl _) _)
theorem Rw.later {w : World} (h : Rw w) (x : Later w) : Rw x.val := h.below x.property
theorem Rw.tb {w : World} (h : Rw w) : Tb w := h.1
theorem trimMinus_any (s : ByteArray) (w : World) : Calls Tryd.prog 94 #[.string s, .string ⟨#[45]⟩] w (Ret w (.string ⟨(magL s.data.toList).toArray⟩)) := by
  refine (Tryd.strings_TrimPrefix s ⟨#[45]⟩ w).mono ?_
  rintro _ w' ⟨rfl, rfl⟩
  refine ⟨?_, Below.refl _ _⟩
  rw [← magL_trim]
theorem parseOk_any (s : ByteArray) (hs : s.size ≤ 2000000) (v : Int) (h : Lib.parseIntB 64 s.data.toList = .ok v) (w : World) : Calls Tryd.prog 95 #[.string s, .int .i64 10, .int .i64 64] w (Ret w (.tuple #[.int .i64 v, .nilIface])) := by
  refine (Tryd.strconv_ParseInt_10_at64_ok s (by omega) v h w).mono ?_
  rintro _ w' ⟨rfl, rfl | ⟨t, rfl⟩⟩
  · exact ⟨rfl, Below.refl _ _⟩
  · exact ⟨rfl, Lib.bytesWorld_below _ _ _⟩
def RetBad (w : World) (e : Ending) (w' : World) : Prop := ∃ (z : Int) (t : TypeId) (p : Value), e = .returned (.tuple #[.int .i64 z, .iface t p]) ∧ Below w.heap.size w w'
theorem parseBad_any (s : ByteArray) (hs : s.size ≤ 2000000) (h : ∀ v, Lib.parseIntB 64 s.data.toList ≠ .ok v) (w : World) (hw : Rw w) : Calls Tryd.prog 95 #[.string s, .int .i64 10, .int .i64 64] w (RetBad w) := by
  obtain ⟨_, _, ⟨e1, h1, h1'⟩, e2, h2, h2'⟩ := hw
  cases hp : Lib.parseIntB 64 s.data.toList
  · exact absurd hp (h _)
  · refine (Tryd.strconv_ParseInt_10_at64_syntax s (by omega) h (fun e => by rw [hp] at e; cases e) e1 w h1 h1').mono ?_
    rintro _ w' ⟨N, rfl, _, _, hb⟩
    exact ⟨_, _, _, rfl, hb⟩
  · refine (Tryd.strconv_ParseInt_10_at64_range s (by omega) hp e2 w h2 h2').mono ?_
    rintro _ w' ⟨N, rfl, _, _, hb⟩
    exact ⟨_, _, _, rfl, hb⟩
/-- What both packages give for a decimal text. -/
def rdV (l : List UInt8) : Value := .tuple #[.int .i64 ((rdM l).getD 0), .bool (rdM l).isSome]
theorem rdV_none {l : List UInt8} (h : rdM l = none) : rdV l = .tuple #[.int .i64 0, .bool false] := by unfold rdV; rw [h]; rfl
theorem rdV_some {l : List UInt8} {n : Int} (h : rdM l = some n) : rdV l = .tuple #[.int .i64 n, .bool true] := by unfold rdV; rw [h]; rfl
theorem size_list (s : ByteArray) : s.size = s.data.toList.length := Lib.size_eq s
theorem decB_eq {n : Int} {s : ByteArray} : decB n = s ↔ Lib.itoa n = s.data.toList := by
  unfold decB
  constructor
  · intro h; rw [← h]
  · intro h; rw [h]
set_option maxHeartbeats 2000000 in
theorem readDecimal_any (s : ByteArray) (hs : s.size ≤ 2000000) (w : World) (hw : Rw w) : Calls Tryd.prog 67 #[.string s] w (Ret w (rdV s.data.toList)) := by
  have kT := fun w => trimMinus_any s w
  obtain ⟨T, hT⟩ : ∃ T : ByteArray, ⟨(magL s.data.toList).toArray⟩ = T := ⟨_, rfl⟩
  have hTs : T.size = (magL s.data.toList).length := by rw [← hT]; simp [ByteArray.size]
  rw [hT] at kT
  have hz : (magL s.data.toList).length ≤ s.data.toList.length := by unfold magL; split <;> simp
  rw [← size_list] at hz
  by_cases h18 : T.size ≤ 18
  · have h18' : ¬ ((T.size : Int) > 18) := by omega
    by_cases hok : ∃ v, Lib.parseIntB 64 s.data.toList = .ok v
    · obtain ⟨v, hp⟩ := hok
      have hr := rd_ok (by omega) hp
      have hb := Lib.parseIntB_bounds hp
      have kP := fun w => parseOk_any s hs v hp w
      have kD := fun w h => decimal_any v (by omega) (by omega) w h
      obtain ⟨D, eD, sD⟩ : ∃ D : ByteArray, decB v = D ∧ D.size ≤ 21 := ⟨_, rfl, by
        show (Lib.itoa v).toArray.size ≤ 21
        rw [List.size_toArray]
        exact Lib.itoa_length_le v (by omega) (by omega)⟩
      rw [eD] at kD
      by_cases he : Lib.itoa v = s.data.toList
      · rw [if_pos he] at hr
        rw [rdV_some hr]
        obtain rfl : D = s := eD.symm.trans (decB_eq.2 he)
        clear hr hb he hp hT eD hTs hz
        go_enter Tryd.func67, Tryd.ntmps67
        go_wp2_with fail
        apply Calls.mono
        · with_reducible exact kT _
        rintro _ w1 ⟨rfl, hb_w1⟩
        obtain ⟨hc_w1, hf_w1, hs_w1⟩ := bcell hb_w1
        try simp at hs_w1
        go_wp2_with fail
        apply Calls.mono
        · with_reducible exact kP _
        rintro _ w2 ⟨rfl, hb_w2⟩
        obtain ⟨hc_w2, hf_w2, hs_w2⟩ := bcell hb_w2
        try simp at hs_w2
        have ht2 := ((hw.below hb_w1).below hb_w2).tb
        go_wp2_with fail
        apply Calls.mono
        · with_reducible exact kD _ ht2
        rintro _ w3 ⟨rfl, hb_w3⟩
        obtain ⟨hc_w3, hf_w3, hs_w3⟩ := bcell hb_w3
        try simp at hs_w3
        go_wp2
        go_ret2
        refine ⟨by first | rfl | (simp), ?_⟩
        repeat' (first | (with_reducible exact Below.refl _ _) | (with_reducible assumption) | (with_reducible refine Below.alloc ?_ ?_ _) | (with_reducible refine Below.drew ?_) | (with_reducible refine bdrewN ?_ _) | (with_reducible refine Below.setCell ?_ ?_ _) | (with_reducible refine bthen ?_ (by assumption) ?_) | go_size)
      · rw [if_neg he] at hr
        rw [rdV_none hr]
        have hne := be_ne (a := D) (b := s) (fun e => he (decB_eq.1 (eD.trans e)))
        clear hr hb he hp hT eD hTs hz
        go_enter Tryd.func67, Tryd.ntmps67
        go_wp2_with fail
        apply Calls.mono
        · with_reducible exact kT _
        rintro _ w1 ⟨rfl, hb_w1⟩
        obtain ⟨hc_w1, hf_w1, hs_w1⟩ := bcell hb_w1
        try simp at hs_w1
        go_wp2_with fail
        apply Calls.mono
        · with_reducible exact kP _
        rintro _ w2 ⟨rfl, hb_w2⟩
        obtain ⟨hc_w2, hf_w2, hs_w2⟩ := bcell hb_w2
        try simp at hs_w2
        have ht2 := ((hw.below hb_w1).below hb_w2).tb
        go_wp2_with fail
        apply Calls.mono
        · with_reducible exact kD _ ht2
        rintro _ w3 ⟨rfl, hb_w3⟩
        obtain ⟨hc_w3, hf_w3, hs_w3⟩ := bcell hb_w3
        try simp at hs_w3
        go_wp2
        go_ret2
        refine ⟨by first | rfl | (simp), ?_⟩
        repeat' (first | (with_reducible exact Below.refl _ _) | (with_reducible assumption) | (with_reducible refine Below.alloc ?_ ?_ _) | (with_reducible refine Below.drew ?_) | (with_reducible refine bdrewN ?_ _) | (with_reducible refine Below.setCell ?_ ?_ _) | (with_reducible refine bthen ?_ (by assumption) ?_) | go_size)
    · have hbad : ∀ v, Lib.parseIntB 64 s.data.toList ≠ .ok v := fun v e => hok ⟨v, e⟩
      rw [rdV_none (rd_fail hbad)]
      have kP := fun w h => parseBad_any s hs hbad w h
      clear hbad hok hT hTs hz
      go_enter Tryd.func67, Tryd.ntmps67
      go_wp2_with fail
      apply Calls.mono
      · with_reducible exact kT _
      rintro _ w1 ⟨rfl, hb_w1⟩
      obtain ⟨hc_w1, hf_w1, hs_w1⟩ := bcell hb_w1
      try simp at hs_w1
      have hw1 := hw.below hb_w1
      go_wp2_with fail
      apply Calls.mono
      · with_reducible exact kP _ hw1
      rintro _ w2 ⟨z, t, p, rfl, hb_w2⟩
      obtain ⟨hc_w2, hf_w2, hs_w2⟩ := bcell hb_w2
      try simp at hs_w2
      go_wp2
      go_ret2
      refine ⟨by first | rfl | (simp), ?_⟩
      repeat' (first | (with_reducible exact Below.refl _ _) | (with_reducible assumption) | (with_reducible refine Below.alloc ?_ ?_ _) | (with_reducible refine Below.drew ?_) | (with_reducible refine bdrewN ?_ _) | (with_reducible refine Below.setCell ?_ ?_ _) | (with_reducible refine bthen ?_ (by assumption) ?_) | go_size)
  · have h18' : (T.size : Int) > 18 := by omega
    rw [rdV_none (rd_long (by omega))]
    clear hT hTs hz
    go_enter Tryd.func67, Tryd.ntmps67
    go_wp2_with fail
    apply Calls.mono
    · with_reducible exact kT _
    rintro _ w1 ⟨rfl, hb_w1⟩
    obtain ⟨hc_w1, hf_w1, hs_w1⟩ := bcell hb_w1
    try simp at hs_w1
    go_wp2
    go_ret2
    refine ⟨by first | rfl | (simp), ?_⟩
    repeat' (first | (with_reducible exact Below.refl _ _) | (with_reducible assumption) | (with_reducible refine Below.alloc ?_ ?_ _) | (with_reducible refine Below.drew ?_) | (with_reducible refine bdrewN ?_ _) | (with_reducible refine Below.setCell ?_ ?_ _) | (with_reducible refine bthen ?_ (by assumption) ?_) | go_size)
end Go.Proofs.YtibbokllongomaaDoor
