/-
  The common beginning of two paths: both packages' loops.
-/
import Derived.Test.YtlmmpeeacjbobaaPb
import Derived.Deep.AppendLies
namespace Go.Proofs.Ytlmmpeeacjbobaa
open Go.RowKit

def cmL : List Int → List Int → List Int
  | x :: xs, y :: ys => min x y :: (if x = y then cmL xs ys else [])
  | _, _ => []
theorem cm_end {a b : List Int} {j : Nat} (h : ∀ t, t < j → a[t]? = b[t]?) (hj : a.length = j ∧ j ≤ b.length ∨ b.length = j ∧ j ≤ a.length) : cmL a b = a.take j := by
  induction j generalizing a b with
  | zero =>
    rcases hj with ⟨h1, _⟩ | ⟨h1, _⟩
    · obtain rfl := List.length_eq_zero_iff.1 h1; rfl
    · obtain rfl := List.length_eq_zero_iff.1 h1
      cases a <;> rfl
  | succ j ih =>
    cases a with
    | nil => simp at hj
    | cons x xs =>
      cases b with
      | nil => simp at hj
      | cons y ys =>
        have h0 := h 0 (by omega)
        simp only [List.getElem?_cons_zero, Option.some.injEq] at h0
        subst h0
        have hi := ih (a := xs) (b := ys) (fun t ht => by have := h (t + 1) (by omega); simpa using this) (by simpa using hj)
        unfold cmL
        rw [if_pos rfl, hi, List.take_succ_cons]
        simp
theorem cm_stop {a b : List Int} {j : Nat} {x y : Int} (h : ∀ t, t < j → a[t]? = b[t]?) (hx : a[j]? = some x) (hy : b[j]? = some y) (hne : x ≠ y) : cmL a b = a.take j ++ [min x y] := by
  induction j generalizing a b with
  | zero =>
    cases a with
    | nil => simp at hx
    | cons x' xs =>
      cases b with
      | nil => simp at hy
      | cons y' ys =>
        simp only [List.getElem?_cons_zero, Option.some.injEq] at hx hy
        subst hx hy
        unfold cmL
        rw [if_neg hne]
        rfl
  | succ j ih =>
    cases a with
    | nil => simp at hx
    | cons x' xs =>
      cases b with
      | nil => simp at hy
      | cons y' ys =>
        have h0 := h 0 (by omega)
        simp only [List.getElem?_cons_zero, Option.some.injEq] at h0
        subst h0
        have hi := ih (a := xs) (b := ys) (fun t ht => by have := h (t + 1) (by omega); simpa using this) (by simpa using hx) (by simpa using hy)
        unfold cmL
        rw [if_pos rfl, hi, List.take_succ_cons]
        simp
/-- What a path's runs hold. -/
structure PthOk (p : List Int) : Prop where
  bd : ∀ t ∈ p, 0 ≤ t ∧ t ≤ 999999999
  tl : ∀ t ∈ p.drop 1, 1 ≤ t
  len : p.length ≤ 60
theorem pth_ok {i : List Int} {l : Int} (E : ExL i l) : PthOk (pthL i l) := by
  obtain ⟨e1, e2, e3, e4, e5, e6⟩ := E
  unfold pthL
  by_cases h : l = 1
  · rw [if_pos h]; exact ⟨by simp, by simp, by simp⟩
  · rw [if_neg h]
    have l2 : 2 ≤ l := by
      by_cases h : i = []
      · have := e3 h; omega
      · exact e4 h
    refine ⟨fun t ht => ?_, fun t ht => ?_, by simp; omega⟩
    · rcases List.mem_append.1 ht with e | e
      · have := e1 t e; omega
      · rw [List.mem_singleton] at e; omega
    · cases i with
      | nil => simp at ht
      | cons y i =>
        simp only [List.cons_append, List.drop_one, List.tail_cons] at ht
        rcases List.mem_append.1 ht with e | e
        · exact e2 t (by simpa using e)
        · rw [List.mem_singleton] at e; omega
theorem cm_ok : ∀ {a b : List Int}, PthOk a → PthOk b → PthOk (cmL a b)
  | [], b, _, _ => by
    have : cmL [] b = [] := by cases b <;> rfl
    rw [this]; exact ⟨by simp, by simp, by simp⟩
  | x :: xs, [], _, _ => ⟨by simp [cmL], by simp [cmL], by simp [cmL]⟩
  | x :: xs, y :: ys, ha, hb => by
    have key : ∀ (xs ys : List Int), (∀ t ∈ xs, 1 ≤ t ∧ t ≤ 999999999) → (∀ t ∈ ys, 1 ≤ t ∧ t ≤ 999999999) → (∀ t ∈ cmL xs ys, 1 ≤ t ∧ t ≤ 999999999) ∧ (cmL xs ys).length ≤ xs.length := by
      intro xs
      induction xs with
      | nil => intro ys _ _; have : cmL [] ys = [] := by cases ys <;> rfl
               rw [this]; simp
      | cons x xs ih =>
        intro ys h1 h2
        cases ys with
        | nil => simp [cmL]
        | cons y ys =>
          have hx := h1 x (by simp)
          have hy := h2 y (by simp)
          obtain ⟨i1, i2⟩ := ih ys (fun t ht => h1 t (List.mem_cons_of_mem _ ht)) (fun t ht => h2 t (List.mem_cons_of_mem _ ht))
          unfold cmL
          constructor
          · intro t ht
            rcases List.mem_cons.1 ht with e | e
            · omega
            · split at e
              · exact i1 t e
              · simp at e
          · split
            · simp; omega
            · simp
    have hx := ha.bd x (by simp)
    have hy := hb.bd y (by simp)
    have t1 := ha.tl
    have t2 := hb.tl
    have n1 := ha.len
    simp only [List.drop_one, List.tail_cons, List.length_cons] at t1 t2 n1
    obtain ⟨k1, k2⟩ := key xs ys (fun t ht => ⟨t1 t ht, (ha.bd t (List.mem_cons_of_mem _ ht)).2⟩) (fun t ht => ⟨t2 t ht, (hb.bd t (List.mem_cons_of_mem _ ht)).2⟩)
    have k3 : ∀ t ∈ (if x = y then cmL xs ys else []), 1 ≤ t ∧ t ≤ 999999999 := by
      intro t ht
      split at ht
      · exact k1 t ht
      · simp at ht
    refine ⟨fun t ht => ?_, fun t ht => ?_, ?_⟩
    · unfold cmL at ht
      rcases List.mem_cons.1 ht with e | e
      · omega
      · have := k3 t e; omega
    · unfold cmL at ht
      simp only [List.drop_one, List.tail_cons] at ht
      exact (k3 t ht).1
    · unfold cmL
      split
      · simp; omega
      · simp
def coL (a b : List Int) : List Int := trL (cmL a b)
/-- The trimmed row of a path: none where it is but a zero. -/
theorem trl_pth {p : List Int} (h : PthOk p) : trL p = if p = [0] then [] else p := by
  rcases List.eq_nil_or_concat p with rfl | ⟨i, x, rfl⟩
  · rfl
  · rw [List.concat_eq_append] at *
    have hl : (i ++ [x]).length = i.length + 1 := by simp
    have hg : (i ++ [x]).getD i.length 0 = x := by rw [List.getD_eq_getElem?_getD]; simp
    unfold trL
    rw [hl]
    by_cases hx : x = 0
    · subst hx
      have hi : i = [] := by
        cases i with
        | nil => rfl
        | cons y i => exact absurd (h.tl 0 (by simp)) (by omega)
      subst hi
      rfl
    · have h3 : trN (i ++ [x]) (i.length + 1) = i.length + 1 := by
        show (if (i ++ [x]).getD i.length 0 = 0 then _ else _) = _
        rw [hg, if_neg hx]
      rw [h3, List.take_of_length_le (by omega), if_neg (by
        intro e
        cases i with
        | nil => simp at e; exact hx e
        | cons y i => simp at e)]
theorem co_fa {a b : List Int} (ha : PthOk a) (hb : PthOk b) : FaS (coL a b) := by
  have h := cm_ok ha hb
  unfold coL
  rw [trl_pth h]
  generalize cmL a b = p at *
  by_cases h0 : p = [0]
  · rw [if_pos h0]; exact .inl rfl
  · rw [if_neg h0]
    rcases List.eq_nil_or_concat p with rfl | ⟨i, x, rfl⟩
    · exact .inl rfl
    · rw [List.concat_eq_append] at *
      have hx := h.bd x (by simp)
      refine .inr ⟨i, x, rfl, by omega, tms_snoc (fun t ht => by have := h.bd t (List.mem_append_left _ ht); omega) (fun t ht => h.tl t ?_) (by omega) (by omega) (fun _ => by omega) (by have := h.len; simp at this; omega)⟩
      cases i with
      | nil => simp at ht
      | cons y i => simp only [List.cons_append, List.drop_one, List.tail_cons] at ht ⊢; exact List.mem_append_left _ ht
end Go.Proofs.Ytlmmpeeacjbobaa
