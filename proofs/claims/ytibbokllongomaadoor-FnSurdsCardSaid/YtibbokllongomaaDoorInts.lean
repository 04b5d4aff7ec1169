/-
  Slices that are read or made: the words for them; contracts of the functions on lists of integers that the laws use.
-/
import Derived.Test.YtibbokllongomaaDoorBase
namespace Go.Proofs.YtibbokllongomaaDoor
open Go.RowKit

/-- A slice that reads as the cells xs ('size' cells an element). -/
def Rd (w : World) (size : Nat) (v : Value) (n : Nat) (xs : List Value) : Prop :=
  ∃ A c, v = .slice A n c ∧ n ≤ c ∧ c ≤ maxLen ∧ xs.length = n * size ∧ (n = 0 ∨ ∃ g o, A = some ⟨g, o, none⟩ ∧ g < w.heap.size ∧ ∀ j u, xs[j]? = some u → w.cell? ⟨g, o + j, none⟩ = some u)
theorem Rd.below {w w' : World} {B size n : Nat} {v : Value} {xs : List Value} (h : Rd w size v n xs) (hb : Below B w w') (hB : w.heap.size ≤ B) : Rd w' size v n xs := by
  obtain ⟨A, c, hv, hn, hc, hl, hr⟩ := h
  refine ⟨A, c, hv, hn, hc, hl, ?_⟩
  rcases hr with h0 | ⟨g, o, hA, hg, hcell⟩
  · exact .inl h0
  · exact .inr ⟨g, o, hA, Nat.lt_of_lt_of_le hg hb.size, fun j u hu => (hb.cell (p := ⟨g, o + j, none⟩) (by simp; omega)).trans (hcell j u hu)⟩
theorem Rd.alloc {w : World} {size n : Nat} {v : Value} {xs : List Value} (h : Rd w size v n xs) (o : Obj) : Rd (w.alloc o) size v n xs := h.below (B := w.heap.size) ((Below.refl _ _).alloc (Nat.le_refl _) o) (Nat.le_refl _)
theorem Rd.of_own {w : World} {base : Nat} {e : TypeId} {size n : Nat} {v : Value} {xs : List Value} (h : w.ownsRow base e size v n xs) : Rd w size v n xs := by
  have hl := h.1
  rcases h.2 with ⟨rfl, rfl⟩ | ⟨g, cap, cur, rfl, hb, hg, hnc, hcm, hcs, ht⟩
  · exact ⟨none, 0, rfl, Nat.le_refl _, by simp [maxLen], hl, .inl rfl⟩
  · refine ⟨_, _, rfl, hnc, hcm, hl, .inr ⟨g, 0, rfl, (Array.getElem?_eq_some_iff.1 hg).1, fun j u hu => ?_⟩⟩
    have := h.cells (g := g) rfl j u hu
    have e : (⟨g, 0, none⟩ : Addr).add j = ⟨g, 0 + j, none⟩ := by unfold Addr.add; by_cases hj : j = 0 <;> simp [hj]
    rw [← e]
    exact this
/-- The row that a call has made: new, and just these cells. -/
def Row (B : Nat) (w : World) (e : TypeId) (size : Nat) (v : Value) (n : Nat) (xs : List Value) : Prop := w.ownsRow B e size v n xs
theorem own_below {B base size n : Nat} {w w' : World} {e : TypeId} {v : Value} {xs : List Value} (h : w.ownsRow base e size v n xs) (hb : Below B w w') (hB : w.heap.size ≤ B) : w'.ownsRow base e size v n xs := by
  refine ⟨h.1, ?_⟩
  rcases h.2 with hn | ⟨g, cap, cur, rfl, hbg, hg, r⟩
  · exact .inl hn
  · refine .inr ⟨g, cap, cur, rfl, hbg, ?_, r⟩
    rw [hb.block g (Nat.lt_of_lt_of_le (Array.getElem?_eq_some_iff.1 hg).1 hB)]
    exact hg
theorem own_base {base b2 size n : Nat} {w : World} {e : TypeId} {v : Value} {xs : List Value} (h : w.ownsRow base e size v n xs) (hB : b2 ≤ base) : w.ownsRow b2 e size v n xs := by
  refine ⟨h.1, ?_⟩
  rcases h.2 with hn | ⟨g, cap, cur, rfl, hbg, r⟩
  · exact .inl hn
  · exact .inr ⟨g, cap, cur, rfl, Nat.le_trans hB hbg, r⟩
/-- A call returns a new row of these cells. -/
def RetRow (w : World) (e : TypeId) (size n : Nat) (xs : List Value) (en : Ending) (w' : World) : Prop := ∃ v, en = .returned v ∧ w'.ownsRow w.heap.size e size v n xs ∧ Below w.heap.size w w'

def ints (zs : List Int) : List Value := zs.map (Value.int .i64)
theorem ints_len (zs : List Int) : (ints zs).length = zs.length := by simp [ints]
theorem ints_get {zs : List Int} {k : Nat} {z : Int} (h : zs[k]? = some z) : (ints zs)[k]? = some (.int .i64 z) := by simp [ints, h]
theorem get_ex {α : Type} {l : List α} {k : Nat} (h : k < l.length) : ∃ z, l[k]? = some z := ⟨l[k], List.getElem?_eq_getElem h⟩
theorem Tryd.infoI : (Tryd.prog.info? 2).map (fun i => (i.zero, i.size, i.bytes)) = some (some (.int .i64 0), 1, 8) := by kernel_rfl
theorem ints_one (zs : List Int) : ∀ u ∈ ints zs, u.oneCell' = true := by
  intro u hu
  simp only [ints, List.mem_map] at hu
  obtain ⟨z, _, rfl⟩ := hu
  rfl
theorem rd_len {w : World} {size n : Nat} {v : Value} {xs : List Value} (h : Rd w size v n xs) : xs.length = n * size ∧ n ≤ 9223372036854775807 := by
  obtain ⟨A, c, hv, hn, hc, hl, hr⟩ := h
  simp only [maxLen] at hc
  exact ⟨hl, by omega⟩

def EqR (w : World) (n : Nat) (ys zs : List Int) (k : Nat) (i : Value) (wr : World) : Prop :=
  ∃ j : Nat, j ≤ n ∧ n ≤ j + k ∧ i = .int .i64 j ∧ (∀ t, t < j → ys[t]? = zs[t]?) ∧ Below w.heap.size w wr
set_option maxHeartbeats 1000000 in
theorem eqInt64S_any (v v' : Value) (n n' : Nat) (ys zs : List Int) (w : World) (hv : Rd w 1 v n (ints ys)) (hv' : Rd w 1 v' n' (ints zs)) (r : Bool) (hr : (ys == zs) = r) :
    Calls Tryd.prog 24 #[v, v'] w (Ret w (.bool r)) := by
  have HR := Lib.hid hr
  clear hr
  obtain ⟨hl1, hm1⟩ := rd_len hv
  obtain ⟨hl2, hm2⟩ := rd_len hv'
  obtain ⟨A, c, rfl, hn1, hc1, _, hr1⟩ := hv
  obtain ⟨A', c', rfl, hn2, hc2, _, hr2⟩ := hv'
  rw [ints_len, Nat.mul_one] at hl1 hl2
  by_cases hnn : n = n'
  · subst hnn
    have hle : ys.length = zs.length := by omega
    have L1 := Lib.hid hl1
    have L2 := Lib.hid hl2
    have L3 := Lib.hid hle
    have R1 := Lib.hid hr1
    have R2 := Lib.hid hr2
    clear hl1 hl2 hle hr1 hr2
    go_enter Tryd.func24, Tryd.ntmps24
    go_wp2_with fail
    go_loopg [5] n (EqR w n ys zs)
    case atStart => exact ⟨0, by omega, by omega, rfl, by omega, Below.refl _ _⟩
    case round =>
      obtain ⟨j, hj1, hj2, rfl, hall, hbw⟩ := hrel
      have HA := Lib.hid hall
      clear hall
      by_cases hjn : j < n
      · obtain ⟨y, hy⟩ := get_ex (l := ys) (k := j) (by have := L1.out; omega)
        obtain ⟨z, hz⟩ := get_ex (l := zs) (k := j) (by have := L2.out; omega)
        rcases R1.out with h0 | ⟨g, o, rfl, hg, hcell⟩
        · omega
        rcases R2.out with h0 | ⟨g', o', rfl, hg', hcell'⟩
        · omega
        have c1 : wr.cell? ⟨g, o + j, none⟩ = some (.int .i64 y) := (hbw.cell (p := ⟨g, o + j, none⟩) hg).trans (hcell j _ (ints_get hy))
        have c2 : wr.cell? ⟨g', o' + j, none⟩ = some (.int .i64 z) := (hbw.cell (p := ⟨g', o' + j, none⟩) hg').trans (hcell' j _ (ints_get hz))
        have hs := hbw.size
        have hgw : g < wr.heap.size := by omega
        have hgw' : g' < wr.heap.size := by omega
        have HY := Lib.hid hy
        have HZ := Lib.hid hz
        clear hy hz hcell hcell' R1 R2
        by_cases hyz : y = z
        · subst hyz
          go_wp2_with fail
          refine wp_region_calm (by kernel_rfl) (by kernel_rfl) ?_
          repeat (go_big_quiet_step ((fail)))
          refine wpQuiet_nil ?_
          intro w1 hb_w1
          obtain ⟨hc_w1, hf_w1, hs_w1⟩ := bcell hb_w1
          try simp at hs_w1
          go_wp2
          go_roundg (gk - 1)
          case measure => omega
          case rel =>
            refine ⟨j + 1, by omega, by omega, by go_num, ?_, bthen hbw hb_w1 hbw.size⟩
            intro t ht
            by_cases e : t = j
            · subst e; rw [HY.out, HZ.out]
            · exact HA.out t (by omega)
        · have e1 : (y != z) = true := by simp [hyz]
          have e2 : (ys == zs) = false := by
            rw [beq_eq_false_iff_ne]
            intro e
            have h1 := HY.out
            rw [e, HZ.out] at h1
            injection h1 with h1
            exact hyz h1.symm
          obtain rfl : false = r := by rw [← HR.out, e2]
          clear e2 hyz HR
          go_wp2_with fail
          refine wp_region_calm (by kernel_rfl) (by kernel_rfl) ?_
          repeat (go_big_quiet_step ((fail)))
          refine wpQuiet_nil ?_
          intro w1 hb_w1
          obtain ⟨hc_w1, hf_w1, hs_w1⟩ := bcell hb_w1
          try simp at hs_w1
          go_wp2
          go_ret
          refine ⟨by first | rfl | (simp), ?_⟩
          repeat' (first | (with_reducible exact Below.refl _ _) | (with_reducible assumption) | (with_reducible refine Below.alloc ?_ ?_ _) | (with_reducible refine Below.drew ?_) | (with_reducible refine bdrewN ?_ _) | (with_reducible refine Below.setCell ?_ ?_ _) | (with_reducible refine bthen ?_ (by assumption) ?_) | go_size)
      · have e2 : (ys == zs) = true := by
          rw [beq_iff_eq]
          apply List.ext_getElem?
          intro t
          by_cases ht : t < j
          · exact HA.out t ht
          · rw [List.getElem?_eq_none (by have := L1.out; omega), List.getElem?_eq_none (by have := L2.out; omega)]
        obtain rfl : true = r := by rw [← HR.out, e2]
        clear e2 HR
        go_wp2
        go_ret
        refine ⟨by first | rfl | (simp), ?_⟩
        repeat' (first | (with_reducible exact Below.refl _ _) | (with_reducible assumption) | (with_reducible refine Below.alloc ?_ ?_ _) | (with_reducible refine Below.drew ?_) | (with_reducible refine bdrewN ?_ _) | (with_reducible refine Below.setCell ?_ ?_ _) | (with_reducible refine bthen ?_ (by assumption) ?_) | go_size)
  · have e2 : (ys == zs) = false := by
      rw [beq_eq_false_iff_ne]
      intro e
      subst e
      omega
    have e3 : ((n : Int) != (n' : Int)) = true := by
      rw [bne_iff_ne]
      omega
    obtain rfl : false = r := by rw [← HR.out, e2]
    clear e2 hr1 hr2 hl1 hl2 hnn HR
    go_enter Tryd.func24, Tryd.ntmps24
    go_wp2
    go_ret
    refine ⟨by first | rfl | (simp), ?_⟩
    repeat' (first | (with_reducible exact Below.refl _ _) | (with_reducible assumption) | (with_reducible refine Below.alloc ?_ ?_ _) | (with_reducible refine Below.drew ?_) | (with_reducible refine bdrewN ?_ _) | (with_reducible refine Below.setCell ?_ ?_ _) | (with_reducible refine bthen ?_ (by assumption) ?_) | go_size)
/-- What a copy that goes from left to right holds behind j rounds. -/
def fl (zs : List Int) (j : Nat) : List Int := zs.take j ++ List.replicate (zs.length - j) 0
theorem fl_len (zs : List Int) (j : Nat) (h : j ≤ zs.length) : (fl zs j).length = zs.length := by
  simp only [fl, List.length_append, List.length_take, List.length_replicate]; omega
theorem fl_zero (zs : List Int) : fl zs 0 = List.replicate zs.length 0 := by simp [fl]
theorem fl_end (zs : List Int) (j : Nat) (h : zs.length ≤ j) : fl zs j = zs := by simp [fl, List.take_of_length_le h, Nat.sub_eq_zero_of_le h]
theorem fl_set (zs : List Int) (j : Nat) (z : Int) (h : zs[j]? = some z) : (fl zs j).set j z = fl zs (j + 1) := by
  have hj : j < zs.length := by
    rcases Nat.lt_or_ge j zs.length with h' | h'
    · exact h'
    · rw [List.getElem?_eq_none h'] at h; cases h
  have e0 : zs.length - j = (zs.length - (j + 1)) + 1 := by omega
  unfold fl
  rw [e0, List.replicate_succ, List.set_append_right _ _ (by simp; omega)]
  have e1 : j - (zs.take j).length = 0 := by simp; omega
  rw [e1, List.set_cons_zero, List.take_add_one, h]
  simp
theorem ints_set (zs : List Int) (j : Nat) (z : Int) : (ints zs).set j (.int .i64 z) = ints (zs.set j z) := by simp [ints, List.map_set]
def ToR (w : World) (n : Nat) (zs : List Int) (k : Nat) (i : Value) (wr : World) : Prop :=
  ∃ j : Nat, j ≤ n ∧ n ≤ j + k ∧ i = .int .i64 j ∧ wr.ownsRow w.heap.size 2 1 (.slice (some ⟨w.heap.size, 0, none⟩) n n) n (ints (fl zs j)) ∧ Below w.heap.size w wr
set_option maxHeartbeats 1000000 in
theorem toInt64S_any (v : Value) (n : Nat) (zs : List Int) (w : World) (hv : Rd w 1 v n (ints zs)) (hn : n ≤ 1048576) :
    Calls Tryd.prog 23 #[v] w (RetRow w 2 1 n (ints zs)) := by
  obtain ⟨i0, hi0, hz0, hz1, hz2⟩ := info_parts Tryd.infoI
  obtain ⟨hl1, hm1⟩ := rd_len hv
  obtain ⟨A, c, rfl, hn1, hc1, _, hr1⟩ := hv
  rw [ints_len, Nat.mul_one] at hl1
  have L1 := Lib.hid hl1
  have R1 := Lib.hid hr1
  clear hl1 hr1
  go_enter Tryd.func23, Tryd.ntmps23
  go_wp2_with (at_make; refine wpList_make_full _ rfl (.tmp 6) (.tmp 6) 24 rfl w.heap.size 2 i0 (.int .i64 0) 1 Tryd.underlying24 hi0 hz0 hz1 .i64 .i64 n n n rfl rfl rfl rfl (by rw [hz2]; omega) (by simp only [maxLen]; omega) (Nat.le_refl _) ?_; intro w1 hown hgrow)
  go_loopg [4] n (ToR w n zs)
  case atStart =>
    refine ⟨0, by omega, by omega, rfl, ?_, (Below.refl _ _).grown hgrow (Nat.le_refl _) (by intro k hk; cases hk)⟩
    rw [fl_zero, L1.out]
    rw [show (madeCells (Value.int .i64 0).cells (n * 1)).toList = ints (List.replicate n 0) by rw [Nat.mul_one]; exact (toList_madeCells_one (Value.int .i64 0) n).trans (by simp [ints])] at hown
    exact hown
  case round =>
    obtain ⟨j, hj1, hj2, rfl, hown2, hbw⟩ := hrel
    clear hown hgrow
    by_cases hjn : j < n
    · obtain ⟨z, hz⟩ := get_ex (l := zs) (k := j) (by have := L1.out; omega)
      obtain ⟨y, hy⟩ := get_ex (l := fl zs j) (k := j) (by rw [fl_len _ _ (by rw [L1.out]; exact hj1)]; have := L1.out; omega)
      rcases R1.out with h0 | ⟨g, o, rfl, hg, hcell⟩
      · omega
      have c1 : wr.cell? ⟨g, o + j, none⟩ = some (.int .i64 z) := (hbw.cell (p := ⟨g, o + j, none⟩) hg).trans (hcell j _ (ints_get hz))
      have c2 : wr.cell? ⟨w.heap.size, j, none⟩ = some (.int .i64 y) := (hown2.cellAt j (by omega)).trans (ints_get hy)
      have f2 : wr.frozen? ⟨w.heap.size, j, none⟩ = false := hown2.frozenAt j
      obtain ⟨hown3, hgrow3⟩ := hown2.stored j (.int .i64 z)
      rw [ints_set, fl_set zs j z hz] at hown3
      have hjn' : (j : Int) < (n : Int) := by omega
      clear hz hy hcell R1 hown2
      go_wp2
      go_roundg (gk - 1)
      case measure => omega
      case rel => exact ⟨j + 1, by omega, by omega, by go_num, hown3, hbw.setCell (Nat.le_refl _) _⟩
    · rw [fl_end zs j (by have := L1.out; omega)] at hown2
      go_wp2
      go_ret
      exact ⟨_, rfl, hown2, hbw⟩

end Go.Proofs.YtibbokllongomaaDoor
