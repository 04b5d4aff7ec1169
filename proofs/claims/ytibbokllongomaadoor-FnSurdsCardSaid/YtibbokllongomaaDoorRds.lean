/-
  A surd read from its text: plain facts. Both ways give the surd whose text it is.
-/
import Derived.Test.YtibbokllongomaaDoorNum
import Derived.Test.YtibbokllongomaaDoorSp
import Derived.Test.YtibbokllongomaaDoorText
import Derived.Lib.IndexMore
namespace Go.Proofs.YtibbokllongomaaDoor
open Go.Lib

/-- The text of a surd, as a list. -/
def sdL (p d q : Int) : List UInt8 := 40 :: (itoa p ++ 43 :: 114 :: (itoa d ++ 41 :: 47 :: itoa q))
theorem sdT_list (p d q : Int) : (sdT p d q).data.toList = sdL p d q := by
  unfold sdT sdL decB
  simp [ByteArray.data_append]
/-- The reference's way. -/
def sM (l : List UInt8) : Option (Int × Int × Int) :=
  match spL 47 l with
  | [w0, w1] => if w0.length < 2 ∨ w0.head? ≠ some 40 ∨ w0.getLast? ≠ some 41 then none else
    match spL 114 ((w0.take (w0.length - 1)).drop 1) with
    | [v0, v1] => if v0.length < 1 ∨ v0.getLast? ≠ some 43 then none else
      match rdM (v0.take (v0.length - 1)), rdM v1, rdM w1 with
      | some p, some d, some q => if okS p d q then some (p, d, q) else none
      | _, _, _ => none
    | _ => none
  | _ => none
/-- The program's way. -/
def iM (l : List UInt8) : Option (Int × Int × Int) :=
  if hasPrefix l [40] && (cut (trimPrefix l [40]) [41, 47]).2.2 && (cut (cut (trimPrefix l [40]) [41, 47]).1 [43, 114]).2.2 then
    match rdM (cut (cut (trimPrefix l [40]) [41, 47]).1 [43, 114]).1, rdM (cut (cut (trimPrefix l [40]) [41, 47]).1 [43, 114]).2.1, rdM (cut (trimPrefix l [40]) [41, 47]).2.1 with
    | some p, some d, some q => if okS p d q ∧ sdL p d q = l then some (p, d, q) else none
    | _, _, _ => none
  else none
theorem last_of {l : List UInt8} {c : UInt8} (h : l.getLast? = some c) : l = l.take (l.length - 1) ++ [c] := by
  have hne : l ≠ [] := fun e => by rw [e] at h; simp at h
  rw [List.getLast?_eq_some_getLast hne, Option.some.injEq] at h
  have := List.dropLast_concat_getLast hne
  rw [h, List.dropLast_eq_take] at this
  exact this.symm
theorem sM_some {l : List UInt8} {p d q : Int} (h : sM l = some (p, d, q)) : okS p d q = true ∧ sdL p d q = l := by
  unfold sM at h
  split at h
  · rename_i w0 w1 hw
    split at h
    · cases h
    · rename_i hc
      split at h
      · rename_i v0 v1 hv
        split at h
        · cases h
        · rename_i hc2
          split at h
          · rename_i p' d' q' hp hd hq
            split at h
            · rename_i hok
              injection h with h
              injection h with h1 h
              injection h with h2 h3
              subst h1 h2 h3
              refine ⟨hok, ?_⟩
              have e1 := join_sp 47 l
              rw [hw, join_cons2 47 w0 [w1] (by simp), join_one] at e1
              have e2 := join_sp 114 ((w0.take (w0.length - 1)).drop 1)
              rw [hv, join_cons2 114 v0 [v1] (by simp), join_one] at e2
              have c1 : ¬ w0.length < 2 := fun x => hc (.inl x)
              have c2 : w0.head? = some 40 := by
                by_cases x : w0.head? = some 40
                · exact x
                · exact absurd (.inr (.inl x)) hc
              have c3 : w0.getLast? = some 41 := by
                by_cases x : w0.getLast? = some 41
                · exact x
                · exact absurd (.inr (.inr x)) hc
              have c4 : v0.getLast? = some 43 := by
                by_cases x : v0.getLast? = some 43
                · exact x
                · exact absurd (.inr x) hc2
              have f0 := last_of c3
              have f1 := last_of c4
              rw [(rd_some hp).1.symm] at f1
              rw [f1, ← (rd_some hd).1] at e2
              have f2 : w0.take (w0.length - 1) = 40 :: (w0.take (w0.length - 1)).drop 1 := by
                cases w0 with
                | nil => simp at c1
                | cons a r =>
                  simp only [List.head?_cons, Option.some.injEq] at c2
                  subst c2
                  cases r with
                  | nil => simp at c1
                  | cons b r => simp
              rw [← e1, f0, f2, ← e2, ← (rd_some hq).1]
              unfold sdL
              simp
            · cases h
          · cases h
      · cases h
  · cases h
theorem index_two (a b : UInt8) (r : List UInt8) : ∀ p : List UInt8, a ∉ p → index (p ++ a :: b :: r) [a, b] = p.length
  | [], _ => by
    show (if [a, b].isPrefixOf (a :: b :: r) then (0 : Int) else _) = _
    rw [if_pos (by simp [List.isPrefixOf])]
    rfl
  | x :: p, h => by
    have hb : a ≠ x := fun e => h (by rw [e]; simp)
    have ih := index_two a b r p (fun y => h (List.mem_cons_of_mem _ y))
    have e : index (x :: p ++ a :: b :: r) [a, b] = if [a, b].isPrefixOf (x :: (p ++ a :: b :: r)) then (0 : Int) else if index (p ++ a :: b :: r) [a, b] == -1 then -1 else index (p ++ a :: b :: r) [a, b] + 1 := rfl
    rw [e, if_neg (by simp [List.isPrefixOf, hb]), ih, if_neg (by rw [beq_iff_eq]; omega)]
    simp
theorem cut_two {a b : UInt8} {r p : List UInt8} (h : a ∉ p) : cut (p ++ a :: b :: r) [a, b] = (p, r, true) := by
  unfold cut
  rw [index_two a b r p h, if_pos (by omega)]
  have e : ((p.length : Nat) : Int).toNat = p.length := by omega
  rw [e]
  simp [List.drop_append]
theorem okS_small {p d q : Int} (h : okS p d q = true) : (-1000000 ≤ p ∧ p ≤ 1000000) ∧ (-1000000 ≤ d ∧ d ≤ 1000000) ∧ (-1000000 ≤ q ∧ q ≤ 1000000) := by
  obtain ⟨b1, b2, b3, b4, b5, b6, _⟩ := okS_bd h
  omega
theorem iM_text {p d q : Int} (h : okS p d q = true) : iM (sdL p d q) = some (p, d, q) := by
  obtain ⟨⟨p1, p2⟩, ⟨d1, d2⟩, q1, q2⟩ := okS_small h
  unfold iM
  have e1 : hasPrefix (sdL p d q) [40] = true := by simp [hasPrefix, sdL, List.isPrefixOf]
  have e2 : trimPrefix (sdL p d q) [40] = (itoa p ++ 43 :: 114 :: itoa d) ++ 41 :: 47 :: itoa q := by
    unfold trimPrefix
    rw [e1]
    simp [sdL]
  have n1 : (41 : UInt8) ∉ itoa p ++ 43 :: 114 :: itoa d := by
    intro x
    rcases List.mem_append.1 x with x | x
    · exact itoa_no (by decide) (by decide) p x
    · rcases List.mem_cons.1 x with x | x
      · revert x; decide
      · rcases List.mem_cons.1 x with x | x
        · revert x; decide
        · exact itoa_no (by decide) (by decide) d x
  rw [e2, cut_two n1]
  simp only
  rw [cut_two (itoa_no (by decide) (by decide) p)]
  simp only
  rw [rd_itoa (by omega) (by omega), rd_itoa (by omega) (by omega), rd_itoa (by omega) (by omega), e1]
  simp [h]
theorem sM_text {p d q : Int} (h : okS p d q = true) : sM (sdL p d q) = some (p, d, q) := by
  obtain ⟨⟨p1, p2⟩, ⟨d1, d2⟩, q1, q2⟩ := okS_small h
  unfold sM
  have e1 : sdL p d q = (40 :: (itoa p ++ 43 :: 114 :: itoa d) ++ [41]) ++ 47 :: itoa q := by simp [sdL]
  have n1 : (47 : UInt8) ∉ 40 :: (itoa p ++ 43 :: 114 :: itoa d) ++ [41] := by
    intro x
    simp only [List.cons_append, List.mem_cons, List.mem_append, List.not_mem_nil, or_false] at x
    rcases x with x | (x | x | x | x) | x
    · revert x; decide
    · exact itoa_no (by decide) (by decide) p x
    · revert x; decide
    · revert x; decide
    · exact itoa_no (by decide) (by decide) d x
    · revert x; decide
  rw [e1, sp_hit 47 _ _ n1, sp_end 47 _ (itoa_no (by decide) (by decide) q)]
  simp only
  have g1 : ¬ ((40 :: (itoa p ++ 43 :: 114 :: itoa d) ++ [41]).length < 2 ∨ (40 :: (itoa p ++ 43 :: 114 :: itoa d) ++ [41]).head? ≠ some 40 ∨ (40 :: (itoa p ++ 43 :: 114 :: itoa d) ++ [41]).getLast? ≠ some 41) := by
    intro x
    rcases x with x | x | x
    · rw [List.length_append, List.length_cons, List.length_singleton] at x; omega
    · exact x rfl
    · exact x List.getLast?_concat
  rw [if_neg g1]
  have e2 : ((40 :: (itoa p ++ 43 :: 114 :: itoa d) ++ [41]).take ((40 :: (itoa p ++ 43 :: 114 :: itoa d) ++ [41]).length - 1)).drop 1 = (itoa p ++ [43]) ++ 114 :: itoa d := by
    rw [← List.dropLast_eq_take, List.dropLast_concat]
    simp
  rw [e2]
  have n2 : (114 : UInt8) ∉ itoa p ++ [43] := by
    intro x
    rcases List.mem_append.1 x with x | x
    · exact itoa_no (by decide) (by decide) p x
    · simp at x
  rw [sp_hit 114 _ _ n2, sp_end 114 _ (itoa_no (by decide) (by decide) d)]
  simp only
  have g2 : ¬ ((itoa p ++ [43]).length < 1 ∨ (itoa p ++ [43]).getLast? ≠ some 43) := by
    intro x
    rcases x with x | x
    · rw [List.length_append, List.length_singleton] at x; omega
    · exact x List.getLast?_concat
  rw [if_neg g2]
  have e3 : (itoa p ++ [43]).take ((itoa p ++ [43]).length - 1) = itoa p := by
    rw [← List.dropLast_eq_take, List.dropLast_concat]
  rw [e3, rd_itoa (by omega) (by omega), rd_itoa (by omega) (by omega), rd_itoa (by omega) (by omega)]
  simp [h]
theorem iM_some {l : List UInt8} {p d q : Int} (h : iM l = some (p, d, q)) : okS p d q = true ∧ sdL p d q = l := by
  unfold iM at h
  split at h
  · split at h
    · split at h
      · rename_i hc
        injection h with h
        injection h with h1 h
        injection h with h2 h3
        subst h1 h2 h3
        exact hc
      · cases h
    · cases h
  · cases h
/-- Both ways are one. -/
theorem iM_sM (l : List UInt8) : iM l = sM l := by
  cases h : sM l with
  | some x =>
    obtain ⟨p, d, q⟩ := x
    obtain ⟨h1, h2⟩ := sM_some h
    rw [← h2]; exact iM_text h1
  | none =>
    cases h' : iM l with
    | none => rfl
    | some x =>
      obtain ⟨p, d, q⟩ := x
      obtain ⟨h1, h2⟩ := iM_some h'
      rw [← h2, sM_text h1] at h
      cases h
end Go.Proofs.YtibbokllongomaaDoor
