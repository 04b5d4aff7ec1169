/-
  The texts of paths, as plain functions.
-/
import Derived.Test.YtlmmpeeacjbobaaGreatDoorDec
import Derived.Test.YtlmmpeeacjbobaaGreatDoorOk
import Derived.Shelf.Strings.OnBuilder
namespace Go.Proofs.YtlmmpeeacjbobaaGreatDoor
open Go.RowKit

theorem decB_sz (n : Int) (h0 : -9223372036854775808 ≤ n) (h1 : n ≤ 9223372036854775807) : (decB n).size ≤ 21 := by
  show (Lib.itoa n).toArray.size ≤ 21
  rw [List.size_toArray]
  exact Lib.itoa_length_le n h0 h1
def ltB (i : Nat) : ByteArray := ⟨#[if i % 2 = 0 then 82 else 76]⟩
def wdB (i : Nat) (n : Int) : ByteArray := ltB i ++ decB n
def wdL (rs : List Int) : Nat → List ByteArray
  | 0 => []
  | t + 1 => if 0 < rs.getD t 0 then wdL rs t ++ [wdB t (rs.getD t 0)] else wdL rs t
def jnB (xs : List ByteArray) : ByteArray := ⟨(Lib.join (xs.map (·.data.toList)) (⟨#[32]⟩ : ByteArray).data.toList).toArray⟩
def ptO (rs : List Int) : ByteArray := if okR rs then (if wdL rs rs.length = [] then ⟨#[116, 111, 112]⟩ else jnB (wdL rs rs.length)) else ⟨#[]⟩
theorem jn_nil : jnB [] = ⟨#[]⟩ := rfl
theorem jn_one (x : ByteArray) : jnB [x] = x := by
  unfold jnB
  rw [List.map_cons, List.map_nil, Lib.join_one]
theorem jn_snoc {xs : List ByteArray} (y : ByteArray) (h : xs ≠ []) : jnB (xs ++ [y]) = jnB xs ++ ⟨#[32]⟩ ++ y := by
  cases xs with
  | nil => exact absurd rfl h
  | cons x r =>
    apply ByteArray.ext
    unfold jnB
    rw [ByteArray.data_append, ByteArray.data_append]
    apply Array.ext'
    simp [Lib.join_cons, Lib.joinTail]
theorem wd_size (i : Nat) (n : Int) (h0 : -9223372036854775808 ≤ n) (h1 : n ≤ 9223372036854775807) : 1 ≤ (wdB i n).size ∧ (wdB i n).size ≤ 22 := by
  have h := decB_sz n h0 h1
  unfold wdB
  rw [ByteArray.size_append]
  have : (ltB i).size = 1 := rfl
  omega
theorem jn_size' : ∀ (n : Nat) (xs : List ByteArray), xs.length = n → (∀ x ∈ xs, 1 ≤ x.size ∧ x.size ≤ 22) → (jnB xs).size ≤ 23 * xs.length ∧ (xs ≠ [] → 1 ≤ (jnB xs).size)
  | 0, xs, hn, h => by
    obtain rfl := List.length_eq_zero_iff.1 hn
    exact ⟨by rw [jn_nil]; decide, fun h => absurd rfl h⟩
  | n + 1, xs, hn, h => by
    rcases List.eq_nil_or_concat xs with rfl | ⟨xs, y, rfl⟩
    · simp at hn
    rw [List.concat_eq_append] at *
    have hy := h y (by simp)
    obtain ⟨i1, i2⟩ := jn_size' n xs (by simpa using hn) (fun x hx => h x (List.mem_append_left _ hx))
    by_cases he : xs = []
    · subst he
      rw [List.nil_append, jn_one]
      simp; omega
    · rw [jn_snoc y he, ByteArray.size_append, ByteArray.size_append]
      have e1 : (⟨#[32]⟩ : ByteArray).size = 1 := rfl
      rw [List.length_append, List.length_singleton]
      omega
theorem jn_size {xs : List ByteArray} (h : ∀ x ∈ xs, 1 ≤ x.size ∧ x.size ≤ 22) : (jnB xs).size ≤ 23 * xs.length ∧ (xs ≠ [] → 1 ≤ (jnB xs).size) := jn_size' _ xs rfl h
theorem wdL_mem {rs : List Int} (h : ∀ t ∈ rs, t ≤ 1000000000) : ∀ t, ∀ x ∈ wdL rs t, 1 ≤ x.size ∧ x.size ≤ 22
  | 0, x, hx => by simp [wdL] at hx
  | t + 1, x, hx => by
    unfold wdL at hx
    split at hx
    · rename_i hp
      rcases List.mem_append.1 hx with e | e
      · exact wdL_mem h t x e
      · rw [List.mem_singleton] at e
        subst e
        have hle : rs.getD t 0 ≤ 1000000000 := by
          rw [List.getD_eq_getElem?_getD]
          rcases Nat.lt_or_ge t rs.length with g | g
          · rw [List.getElem?_eq_getElem g]; exact h _ (List.getElem_mem g)
          · rw [List.getElem?_eq_none g]; simp
        exact wd_size _ _ (by omega) (by omega)
    · exact wdL_mem h t x hx
theorem wdL_len (rs : List Int) : ∀ t, (wdL rs t).length ≤ t
  | 0 => by simp [wdL]
  | t + 1 => by
    have := wdL_len rs t
    unfold wdL
    split
    · simp; omega
    · omega
end Go.Proofs.YtlmmpeeacjbobaaGreatDoor
