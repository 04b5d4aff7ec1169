/-
  Farey sequences: neighbours, ranks and numbers of elements, as plain facts.
-/
import Derived.Test.YtlmmpeeacjbobaaDoorFarey4
import Derived.Test.YtlmmpeeacjbobaaDoorTot
namespace Go.Proofs.YtlmmpeeacjbobaaDoor
open Go.RowKit

def adjB : List (Int × Int) → Bool
  | p :: q :: r => nbF p.1 p.2 q.1 q.2 && decide (p.1 * q.2 < q.1 * p.2) && adjB (q :: r)
  | _ => true
theorem far_chk_all : (List.range 40).all (fun i => adjB (farL (i + 1)) && (farL (i + 1)).all (fun p => okF p.1 p.2 && decide (0 ≤ p.1) && decide (p.1 ≤ p.2)) && decide (cntF (i + 1) = (farL (i + 1)).length)) = true := by decide +kernel
theorem far_chk {N : Int} (h1 : 1 ≤ N) (h2 : N ≤ 40) : adjB (farL N) = true ∧ (∀ p ∈ farL N, okF p.1 p.2 = true ∧ 0 ≤ p.1 ∧ p.1 ≤ p.2) ∧ cntF N.toNat = (farL N).length := by
  have h := List.all_eq_true.1 far_chk_all (N - 1).toNat (List.mem_range.2 (by omega))
  have e : (((N - 1).toNat : Nat) : Int) + 1 = N := by omega
  have e2 : (N - 1).toNat + 1 = N.toNat := by omega
  rw [e, e2] at h
  simp only [Bool.and_eq_true, decide_eq_true_eq, List.all_eq_true] at h
  exact ⟨h.1.1, fun p hp => by have := h.1.2 p hp; exact ⟨this.1.1, this.1.2, this.2⟩, h.2⟩
theorem fr_trans {a b c d e f : Int} (hb : 1 ≤ b) (hd : 1 ≤ d) (hf : 1 ≤ f) (h1 : a * d < c * b) (h2 : c * f < e * d) : a * f < e * b := by
  have k1 := Int.mul_lt_mul_of_pos_right h1 (show 0 < f by omega)
  have k2 := Int.mul_lt_mul_of_pos_right h2 (show 0 < b by omega)
  have e1 : a * d * f = a * f * d := by grind
  have e2 : c * b * f = c * f * b := by grind
  have e3 : e * d * b = e * b * d := by grind
  rw [e1, e2] at k1
  rw [e3] at k2
  exact Int.lt_of_mul_lt_mul_right (Int.lt_trans k1 k2) (by omega)
theorem adj_tail {p : Int × Int} {l : List (Int × Int)} (h : adjB (p :: l) = true) : adjB l = true := by
  cases l with
  | nil => rfl
  | cons q r => unfold adjB at h; rw [Bool.and_eq_true] at h; exact h.2
theorem adj_head : ∀ (l : List (Int × Int)) (p : Int × Int), adjB (p :: l) = true → 1 ≤ p.2 → (∀ q ∈ l, 1 ≤ q.2) → ∀ q ∈ l, p.1 * q.2 < q.1 * p.2
  | [], _, _, _, _ => fun q hq => by simp at hq
  | r :: t, p, h, hp, hl => fun q hq => by
    have h0 := h
    unfold adjB at h0
    simp only [Bool.and_eq_true, decide_eq_true_eq] at h0
    rcases List.mem_cons.1 hq with rfl | hq
    · exact h0.1.2
    · have h3 := adj_head t r h0.2 (hl r (by simp)) (fun q hq => hl q (List.mem_cons_of_mem _ hq)) q hq
      exact fr_trans hp (hl r (by simp)) (hl q (List.mem_cons_of_mem _ hq)) h0.1.2 h3
theorem adj_pair : ∀ (l : List (Int × Int)), adjB l = true → (∀ q ∈ l, 1 ≤ q.2) → ∀ (i j : Nat) (p q : Int × Int), i < j → l[i]? = some p → l[j]? = some q → p.1 * q.2 < q.1 * p.2
  | [], _, _ => fun i j p q _ hp _ => by simp at hp
  | x :: xs, h, hl => fun i j p q hij hp hq => by
    cases j with
    | zero => omega
    | succ j =>
      rw [List.getElem?_cons_succ] at hq
      cases i with
      | zero =>
        simp only [List.getElem?_cons_zero, Option.some.injEq] at hp
        subst hp
        exact adj_head xs x h (hl x (by simp)) (fun q hq => hl q (List.mem_cons_of_mem _ hq)) q (List.mem_of_getElem? hq)
      | succ i =>
        rw [List.getElem?_cons_succ] at hp
        exact adj_pair xs (adj_tail h) (fun q hq => hl q (List.mem_cons_of_mem _ hq)) i j p q (by omega) hp hq
theorem adj_next : ∀ (l : List (Int × Int)), adjB l = true → ∀ (i : Nat) (p q : Int × Int), l[i]? = some p → l[i + 1]? = some q → nbF p.1 p.2 q.1 q.2 = true
  | [], _ => fun i p q hp _ => by simp at hp
  | [x], _ => fun i p q _ hq => by simp at hq
  | x :: y :: r, h => fun i p q hp hq => by
    cases i with
    | zero =>
      simp only [List.getElem?_cons_zero, List.getElem?_cons_succ, Option.some.injEq] at hp hq
      subst hp hq
      unfold adjB at h
      simp only [Bool.and_eq_true] at h
      exact h.1.1
    | succ i =>
      rw [List.getElem?_cons_succ] at hp hq
      exact adj_next (y :: r) (adj_tail h) i p q hp hq
theorem rank_at {N k : Int} (h : (atM N k).2.2 = 0) : rankM N (atM N k).1 (atM N k).2.1 = (k, 0) := by
  cases h1 : inB N 1 40
  · rw [show atM N k = (0, 0, 2) by simp [atM, h1]] at h; cases h
  · cases h2 : inB k 0 (((farL N).length : Int) - 1)
    · rw [show atM N k = (0, 0, 3) by simp [atM, h1, h2]] at h; cases h
    · obtain ⟨b1, b2⟩ := inB_iff.1 h1
      obtain ⟨c1, c2⟩ := inB_iff.1 h2
      obtain ⟨k', rfl⟩ := Int.eq_ofNat_of_zero_le c1
      obtain ⟨p, hp⟩ := get_ex (l := farL N) (k := k') (by omega)
      have e : atM N (k' : Int) = (p.1, p.2, 0) := by simp [atM, h1, h2, List.getD_eq_getElem?_getD, hp]
      rw [e]
      obtain ⟨f1, f2, _⟩ := far_chk b1 b2
      obtain ⟨g1, g2, g3⟩ := f2 p (List.mem_of_getElem? hp)
      have hpos : ∀ q ∈ farL N, 1 ≤ q.2 := fun q hq => (okF_bd (f2 q hq).1).1
      have hidx : idxF (farL N) (p.1, p.2) 0 = ((0 + k' : Nat) : Int) := idx_hit _ _ 0 k' (fun t ht e => by
        have := adj_pair _ f1 hpos t k' _ _ ht e hp
        simp only at this
        omega) hp
      have hc : chkM N 40 p.1 p.2 = 0 := by unfold chkM; rw [if_pos g1, h1]; simp [g2, g3]
      unfold rankM
      rw [if_pos hc, hidx, if_neg (by omega)]
      simp
theorem cnt_at {N : Int} (h : (seqM N).2 = 0) : cntM N = ((((seqM N).1.length : Nat) : Int), 0) := by
  cases h1 : inB N 1 40
  · rw [show seqM N = ([], 2) by simp [seqM, h1]] at h; cases h
  · obtain ⟨b1, b2⟩ := inB_iff.1 h1
    have e : seqM N = (farL N, 0) := by simp [seqM, h1]
    rw [e]
    unfold cntM
    rw [inB_iff.2 ⟨b1, by omega⟩, if_pos rfl, (far_chk b1 b2).2.2]
theorem nb_at {N : Int} (h : (seqM N).2 = 0) {i : Nat} {p q : Int × Int} (hp : (seqM N).1[i]? = some p) (hq : (seqM N).1[i + 1]? = some q) : okF p.1 p.2 = true ∧ okF q.1 q.2 = true ∧ nbF p.1 p.2 q.1 q.2 = true := by
  cases h1 : inB N 1 40
  · rw [show seqM N = ([], 2) by simp [seqM, h1]] at h; cases h
  · obtain ⟨b1, b2⟩ := inB_iff.1 h1
    have e : seqM N = (farL N, 0) := by simp [seqM, h1]
    rw [e] at hp hq
    obtain ⟨f1, f2, _⟩ := far_chk b1 b2
    exact ⟨(f2 p (List.mem_of_getElem? hp)).1, (f2 q (List.mem_of_getElem? hq)).1, adj_next _ f1 i p q hp hq⟩
theorem seq_len (N : Int) : (seqM N).1.length ≤ 600 := by
  unfold seqM
  split
  · rename_i h
    obtain ⟨b1, b2⟩ := inB_iff.1 h
    exact (farL_len b1 b2).2
  · simp
end Go.Proofs.YtlmmpeeacjbobaaDoor
