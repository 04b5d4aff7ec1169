/-
  Texts in parts: plain facts.
-/
import Derived.Lib.SplitLaws
import Derived.Lib.Split
import Derived.Lib.Join
namespace Go.Proofs.YtlmmpeeacjbobaaGreatDoor
open Go.Lib

/-- The parts of a text between a byte. -/
def hdA (b : UInt8) : List (List UInt8) → List (List UInt8)
  | [] => [[b]]
  | x :: r => (b :: x) :: r
def spL (c : UInt8) : List UInt8 → List (List UInt8)
  | [] => [[]]
  | b :: l => if b = c then [] :: spL c l else hdA b (spL c l)
theorem sp_ne (c : UInt8) : ∀ l, spL c l ≠ []
  | [] => by simp [spL]
  | b :: l => by
    unfold spL
    split
    · simp
    · cases spL c l <;> simp [hdA]
theorem sp_hit (c : UInt8) (r : List UInt8) : ∀ p : List UInt8, c ∉ p → spL c (p ++ c :: r) = p :: spL c r
  | [], _ => by
    show (if c = c then _ else _) = _
    rw [if_pos rfl]
  | b :: p, h => by
    have hb : b ≠ c := fun e => h (by rw [e]; simp)
    have ih := sp_hit c r p (fun x => h (List.mem_cons_of_mem _ x))
    show (if b = c then _ else hdA b (spL c (p ++ c :: r))) = _
    rw [if_neg hb, ih]
    rfl
theorem sp_end (c : UInt8) : ∀ p : List UInt8, c ∉ p → spL c p = [p]
  | [], _ => rfl
  | b :: p, h => by
    have hb : b ≠ c := fun e => h (by rw [e]; simp)
    have ih := sp_end c p (fun x => h (List.mem_cons_of_mem _ x))
    show (if b = c then _ else hdA b (spL c p)) = _
    rw [if_neg hb, ih]
    rfl
/-- A text has the byte, at a first place, or has it not. -/
theorem first_of (c : UInt8) : ∀ l : List UInt8, c ∉ l ∨ ∃ p r, l = p ++ c :: r ∧ c ∉ p
  | [] => .inl (by simp)
  | b :: l => by
    by_cases hb : b = c
    · exact .inr ⟨[], l, by rw [hb]; rfl, by simp⟩
    · rcases first_of c l with h | ⟨p, r, rfl, h⟩
      · exact .inl (fun x => (List.mem_cons.1 x).elim (fun e => hb e.symm) h)
      · exact .inr ⟨b :: p, r, rfl, fun x => (List.mem_cons.1 x).elim (fun e => hb e.symm) h⟩
theorem sp_no (c : UInt8) : ∀ (n : Nat) (l : List UInt8), l.length ≤ n → ∀ x ∈ spL c l, c ∉ x
  | 0, l, h => by
    obtain rfl := List.length_eq_zero_iff.1 (Nat.le_zero.1 h)
    intro x hx
    simp [spL] at hx
    rw [hx]; simp
  | n + 1, l, h => by
    rcases first_of c l with h1 | ⟨p, r, rfl, h1⟩
    · rw [sp_end c l h1]; intro x hx; rw [List.mem_singleton] at hx; rw [hx]; exact h1
    · rw [sp_hit c r p h1]
      intro x hx
      rcases List.mem_cons.1 hx with rfl | hx
      · exact h1
      · exact sp_no c n r (by simp at h; omega) x hx
theorem sp_mem (c : UInt8) (l : List UInt8) : ∀ x ∈ spL c l, c ∉ x := sp_no c _ l (Nat.le_refl _)
theorem join_cons2 (c : UInt8) (x : List UInt8) (r : List (List UInt8)) (h : r ≠ []) : join (x :: r) [c] = x ++ c :: join r [c] := by
  cases r with
  | nil => exact absurd rfl h
  | cons y r =>
    rw [join_cons, join_cons]
    simp [joinTail]
theorem sp_join (c : UInt8) : ∀ ws : List (List UInt8), ws ≠ [] → (∀ x ∈ ws, c ∉ x) → spL c (join ws [c]) = ws
  | [], h, _ => absurd rfl h
  | [x], _, h => by rw [join_one, sp_end c x (h x (by simp))]
  | x :: y :: r, _, h => by
    rw [join_cons2 c x (y :: r) (by simp), sp_hit c _ x (h x (by simp)), sp_join c (y :: r) (by simp) (fun z hz => h z (List.mem_cons_of_mem _ hz))]
theorem join_sp' (c : UInt8) : ∀ (n : Nat) (l : List UInt8), l.length ≤ n → join (spL c l) [c] = l
  | 0, l, h => by
    obtain rfl := List.length_eq_zero_iff.1 (Nat.le_zero.1 h)
    show join [[]] [c] = []
    rw [join_one]
  | n + 1, l, h => by
    rcases first_of c l with h1 | ⟨p, r, rfl, h1⟩
    · rw [sp_end c l h1, join_one]
    · rw [sp_hit c r p h1, join_cons2 c p _ (sp_ne c r), join_sp' c n r (by simp at h; omega)]
theorem join_sp (c : UInt8) (l : List UInt8) : join (spL c l) [c] = l := join_sp' c _ l (Nat.le_refl _)
/-- How long the parts are. -/
theorem sp_len (c : UInt8) (l : List UInt8) : (spL c l).length = l.count c + 1 := by
  induction l with
  | nil => rfl
  | cons b l ih =>
    unfold spL
    by_cases hb : b = c
    · rw [if_pos hb, List.length_cons, ih, hb, List.count_cons_self]
    · rw [if_neg hb, List.count_cons_of_ne hb]
      rw [← ih]
      cases e : spL c l with
      | nil => exact absurd e (sp_ne c l)
      | cons x r => rfl
theorem sp_bound (c : UInt8) : ∀ (n : Nat) (l : List UInt8), l.length ≤ n → ∀ x ∈ spL c l, x.length ≤ l.length
  | 0, l, h => by
    obtain rfl := List.length_eq_zero_iff.1 (Nat.le_zero.1 h)
    intro x hx
    simp [spL] at hx
    rw [hx]; simp
  | n + 1, l, h => by
    rcases first_of c l with h1 | ⟨p, r, rfl, h1⟩
    · rw [sp_end c l h1]; intro x hx; rw [List.mem_singleton] at hx; rw [hx]; omega
    · rw [sp_hit c r p h1]
      intro x hx
      rcases List.mem_cons.1 hx with rfl | hx
      · simp
      · have := sp_bound c n r (by simp at h; omega) x hx
        simp; omega
/-- The kit's parts are these. -/
theorem index_one_cons (b c : UInt8) (l : List UInt8) (h : b ≠ c) : index (b :: l) [c] = if index l [c] == -1 then -1 else index l [c] + 1 := by
  show (if [c].isPrefixOf (b :: l) then (0 : Int) else _) = _
  rw [if_neg (by simp [List.isPrefixOf]; exact fun e => h e.symm)]
theorem index_one_hit (c : UInt8) (r : List UInt8) : ∀ p : List UInt8, c ∉ p → index (p ++ c :: r) [c] = p.length
  | [], _ => by
    show (if [c].isPrefixOf (c :: r) then (0 : Int) else _) = _
    rw [if_pos (by simp [List.isPrefixOf])]
    rfl
  | b :: p, h => by
    have hb : b ≠ c := fun e => h (by rw [e]; simp)
    have ih := index_one_hit c r p (fun x => h (List.mem_cons_of_mem _ x))
    rw [List.cons_append, index_one_cons b c _ hb, ih, if_neg (by rw [beq_iff_eq]; omega)]
    simp
theorem index_one_miss (c : UInt8) : ∀ p : List UInt8, c ∉ p → index p [c] = -1
  | [], _ => rfl
  | b :: p, h => by
    have hb : b ≠ c := fun e => h (by rw [e]; simp)
    rw [index_one_cons b c _ hb, index_one_miss c p (fun x => h (List.mem_cons_of_mem _ x))]
    rfl
theorem splitK_one (c : UInt8) : ∀ (n : Nat) (l : List UInt8), l.length ≤ n → splitK [c] 0 (l.count c) l = spL c l
  | 0, l, h => by
    obtain rfl := List.length_eq_zero_iff.1 (Nat.le_zero.1 h)
    rfl
  | n + 1, l, h => by
    rcases first_of c l with h1 | ⟨p, r, rfl, h1⟩
    · rw [sp_end c l h1, List.count_eq_zero.2 h1]; rfl
    · rw [sp_hit c r p h1, List.count_append, List.count_eq_zero.2 h1, List.count_cons_self, Nat.zero_add]
      unfold splitK
      rw [index_one_hit c r p h1, if_neg (by rw [beq_iff_eq]; omega)]
      have e1 : ((p.length : Nat) : Int).toNat = p.length := by omega
      rw [e1, Nat.add_zero, List.take_left', List.length_singleton]
      · have e2 : (p ++ c :: r).drop (p.length + 1) = r := by
          rw [List.drop_append]
          simp
        rw [e2, splitK_one c n r (by simp at h; omega)]
      · rfl
theorem splitB_one (c : UInt8) (s : ByteArray) : (splitB ⟨#[c]⟩ 0 (countB s ⟨#[c]⟩) s).map (·.data.toList) = spL c s.data.toList := by
  rw [splitB_data]
  have e : countB s ⟨#[c]⟩ = s.data.toList.count c := by
    show count s.data.toList [c] = _
    exact count_one c _
  rw [e]
  exact splitK_one c _ _ (Nat.le_refl _)
end Go.Proofs.YtlmmpeeacjbobaaGreatDoor
