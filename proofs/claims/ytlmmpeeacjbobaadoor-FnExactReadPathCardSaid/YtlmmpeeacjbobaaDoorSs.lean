/-
  Texts cut at a byte, both ways: strings.Split, and the reference's own.
-/
import Derived.Test.YtlmmpeeacjbobaaDoorSp
import Derived.Test.YtlmmpeeacjbobaaDoorRd
import Derived.Test.YtlmmpeeacjbobaaDoorStr
namespace Go.Proofs.YtlmmpeeacjbobaaDoor
open Go.RowKit

def spB (c : UInt8) (s : ByteArray) : List ByteArray := (spL c s.data.toList).map (fun l => ⟨l.toArray⟩)
theorem spB_len (c : UInt8) (s : ByteArray) : (spB c s).length = (spL c s.data.toList).length := by simp [spB]
theorem spB_list (c : UInt8) (s : ByteArray) : (spB c s).map (·.data.toList) = spL c s.data.toList := by
  unfold spB; rw [List.map_map]
  conv => rhs; rw [← List.map_id (spL c s.data.toList)]
  exact List.map_congr_left fun x _ => by simp
theorem ba_of_list {a b : ByteArray} (h : a.data.toList = b.data.toList) : a = b := by
  cases a; cases b
  simp only [ByteArray.mk.injEq]
  exact Array.toList_inj.1 h
theorem list_of_map : ∀ {xs ys : List ByteArray}, xs.map (·.data.toList) = ys.map (·.data.toList) → xs = ys
  | [], [], _ => rfl
  | [], y :: ys, h => by simp at h
  | x :: xs, [], h => by simp at h
  | x :: xs, y :: ys, h => by
    simp only [List.map_cons, List.cons.injEq] at h
    rw [ba_of_list h.1, list_of_map h.2]
theorem splitB_is (c : UInt8) (s : ByteArray) : Lib.splitB ⟨#[c]⟩ 0 (Lib.countB s ⟨#[c]⟩) s = spB c s :=
  list_of_map (by rw [spB_list]; exact splitB_one c s)
theorem spB_sizes (c : UInt8) (s : ByteArray) : (spB c s).length ≤ s.size + 1 ∧ ∀ x ∈ spB c s, x.size ≤ s.size := by
  refine ⟨?_, fun x hx => ?_⟩
  · rw [spB_len, sp_len, size_list]
    have := List.count_le_length (a := c) (l := s.data.toList)
    omega
  · obtain ⟨l, hl, rfl⟩ := List.mem_map.1 hx
    have := sp_bound c _ s.data.toList (Nat.le_refl _) l hl
    rw [size_list, size_list]
    exact this
def SplR (w : World) (s : ByteArray) (c : UInt8) (k : Nat) (v vf vi : Value) (wr : World) : Prop :=
  ∃ (f i : Nat) (xs : List ByteArray), f ≤ i ∧ i ≤ s.size ∧ s.size ≤ i + k ∧ vf = .int .i64 f ∧ vi = .int .i64 i ∧ xs.map (·.data.toList) ++ spL c (s.data.toList.drop f) = spL c s.data.toList ∧
    c ∉ (s.data.toList.drop f).take (i - f) ∧ xs.length ≤ i ∧ wr.ownsRow w.heap.size 9 1 v xs.length (strs xs) ∧ Below w.heap.size w wr
theorem ext_list (s : ByteArray) (f i : Nat) : (s.extract f i).data.toList = (s.data.toList.drop f).take (i - f) := by
  rw [Lib.extract_data]
theorem drop_split {l : List UInt8} {f i : Nat} {c : UInt8} (h1 : f ≤ i) (h2 : l[i]? = some c) : l.drop f = (l.drop f).take (i - f) ++ c :: l.drop (i + 1) := by
  obtain ⟨hlt, he⟩ := List.getElem?_eq_some_iff.1 h2
  have e : (l.drop f).drop (i - f) = c :: l.drop (i + 1) := by
    rw [List.drop_drop, show f + (i - f) = i by omega, List.drop_eq_getElem_cons hlt, he]
  rw [← e, List.take_append_drop]
theorem take_grow {l : List UInt8} {f i : Nat} {c x : UInt8} (h1 : f ≤ i) (h2 : l[i]? = some x) (h3 : x ≠ c) (h : c ∉ (l.drop f).take (i - f)) : c ∉ (l.drop f).take (i + 1 - f) := by
  obtain ⟨hlt, he⟩ := List.getElem?_eq_some_iff.1 h2
  rw [show i + 1 - f = i - f + 1 by omega, List.take_succ_eq_append_getElem (by rw [List.length_drop]; omega)]
  intro hm
  rcases List.mem_append.1 hm with hm | hm
  · exact h hm
  · rw [List.mem_singleton, List.getElem_drop] at hm
    apply h3
    rw [hm, ← he]
    congr 1; omega
set_option maxHeartbeats 4000000 in
theorem l01Split_any (s : ByteArray) (hs : s.size ≤ 2000000) (c : UInt8) (w : World) : Calls Tryd.prog 64 #[.string s, .int .u8 (c.toNat : Int)] w (RetRow w 9 1 (spB c s).length (strs (spB c s))) := by
  go_enter Tryd.func64, Tryd.ntmps64
  go_wp2_with fail
  go_loopg [5, 6, 7] s.size (fun k v vf vi wr => SplR w s c k v vf vi wr)
  case atStart => exact ⟨0, 0, [], by omega, by omega, by omega, rfl, rfl, by simp, by simp, by simp, World.ownsRow_lit w #[] 0 (Nat.le_refl _) (by simp [maxLen]) (by simp), by repeat' (first | (with_reducible exact Below.refl _ _) | (with_reducible assumption) | (with_reducible refine Below.alloc ?_ ?_ _) | (with_reducible refine Below.drew ?_) | (with_reducible refine bdrewN ?_ _) | (with_reducible refine Below.setCell ?_ ?_ _) | (with_reducible refine bthen ?_ (by assumption) ?_) | go_size)⟩
  case round =>
    obtain ⟨f, i, xs, hfi, hi1, hi2, rfl, rfl, hx, hno, hxl, hown, hbw⟩ := hrel
    have hsz := hbw.size
    by_cases hlt : i < s.size
    · have hget : s.data.toList[i]? = some s[i] := by
        rw [List.getElem?_eq_getElem (by rw [← size_list]; exact hlt)]; rfl
      by_cases hc : s[i] = c
      · rw [hc] at hget
        have hds := drop_split hfi hget
        rw [hds, sp_hit c _ _ hno, ← ext_list] at hx
        have hx2 : (xs ++ [s.extract f i]).map (·.data.toList) ++ spL c (s.data.toList.drop (i + 1)) = spL c s.data.toList := by
          rw [← hx, List.map_append, List.append_assoc]; rfl
        have HX := Lib.hid hx2
        have hce : ((s[i].toNat : Int) == (c.toNat : Int)) = true := by rw [hc]; simp
        have hc4 : (wr.alloc (.cells #[.string (s.extract f i)] 9)).cell? ⟨wr.heap.size, 0, none⟩ = some (.string (s.extract f i)) := (Blk.new wr 9 #[.string (s.extract f i)]).cell 0
        clear hx hx2 hno hds hget hc
        go_wp2_with (at_builtin; refine wp_appS rfl (.tmp 20) (.tmp 25) rfl w.heap.size _ xs.length xs (s.extract f i) wr.heap.size 1 rfl (hown.alloc _) rfl hc4 (by omega) (by rw [World.size_alloc]; omega) ?_; intro v6 w6 hown6 hgr6 hat6)
        go_roundg (gk - 1)
        case measure => omega
        case rel =>
          refine ⟨i + 1, i + 1, xs ++ [s.extract f i], by omega, by omega, by omega, by go_num, by go_num, HX.out, by simp, by simp; omega, ?_, (hbw.alloc hsz _).grown hgr6 (by rw [World.size_alloc]; omega) (fun k hk => (hown.lt k hk).1)⟩
          rw [List.length_append, List.length_singleton]; exact hown6
      · have hno2 := take_grow hfi hget hc hno
        have hce : ((s[i].toNat : Int) == (c.toNat : Int)) = false := by
          rw [beq_eq_false_iff_ne]
          intro e
          exact hc (UInt8.toNat_inj.1 (by omega))
        have HX := Lib.hid hx
        have HN := Lib.hid hno2
        clear hx hno hno2 hget hc
        go_wp2
        go_roundg (gk - 1)
        case measure => omega
        case rel => exact ⟨f, i + 1, xs, by omega, by omega, by omega, rfl, by go_num, HX.out, HN.out, by omega, hown, hbw⟩
    · obtain rfl : i = s.size := by omega
      have hlast : (s.data.toList.drop f).take (s.size - f) = s.data.toList.drop f := List.take_of_length_le (by rw [List.length_drop, ← size_list]; omega)
      rw [hlast] at hno
      rw [sp_end c _ hno] at hx
      have hx2 : spB c s = xs ++ [s.extract f s.size] := list_of_map (by
        rw [spB_list, ← hx, List.map_append]
        congr 1
        show [s.data.toList.drop f] = [(s.extract f s.size).data.toList]
        rw [ext_list, hlast])
      have HX := Lib.hid hx2
      have hc4 : (wr.alloc (.cells #[.string (s.extract f s.size)] 9)).cell? ⟨wr.heap.size, 0, none⟩ = some (.string (s.extract f s.size)) := (Blk.new wr 9 #[.string (s.extract f s.size)]).cell 0
      clear hx hx2 hno hlast
      go_wp2_with (at_builtin; refine wp_appS rfl (.tmp 29) (.tmp 33) rfl w.heap.size _ xs.length xs (s.extract f s.size) wr.heap.size 1 rfl (hown.alloc _) rfl hc4 (by omega) (by rw [World.size_alloc]; omega) ?_; intro v6 w6 hown6 hgr6 hat6)
      go_ret
      refine ⟨_, rfl, ?_, (hbw.alloc hsz _).grown hgr6 (by rw [World.size_alloc]; omega) (fun k hk => (hown.lt k hk).1)⟩
      rw [HX.out, List.length_append, List.length_singleton]
      exact hown6
end Go.Proofs.YtlmmpeeacjbobaaDoor
