/-
  Rows of texts: the laws' own equality, marks, and marks that are held.
-/
import Derived.Test.YtlmmpeeacjbobaaDoorFlt
namespace Go.Proofs.YtlmmpeeacjbobaaDoor
open Go.RowKit

def dgB (q : Nat) : ByteArray := ⟨[Lib.dg q 0].toArray⟩
def dgF : Nat → Nat → ByteArray
  | 0, _ => ⟨#[]⟩
  | f + 1, q => if q = 0 then ⟨#[]⟩ else dgF f (q / 10) ++ dgB q
def mtB (k : Nat) : ByteArray := ⟨#[109]⟩ ++ dgF 3 k
theorem dgB_size (q : Nat) : (dgB q).size = 1 := rfl
theorem dgF_size : ∀ f q, (dgF f q).size ≤ f
  | 0, _ => by show (⟨#[]⟩ : ByteArray).size ≤ 0; decide
  | f + 1, q => by
    unfold dgF
    split
    · show (⟨#[]⟩ : ByteArray).size ≤ _; exact Nat.zero_le _
    · rw [ByteArray.size_append, dgB_size]; have := dgF_size f (q / 10); omega
theorem dgF_zero (f : Nat) : dgF f 0 = ⟨#[]⟩ := by
  cases f with
  | zero => rfl
  | succ f => unfold dgF; rw [if_pos rfl]
theorem dgF_step {f q : Nat} (h : q ≠ 0) : dgF (f + 1) q = dgF f (q / 10) ++ dgB q := by
  show (if q = 0 then _ else _) = _
  rw [if_neg h]
theorem mtB_size (k : Nat) : (mtB k).size ≤ 4 := by
  unfold mtB
  rw [ByteArray.size_append]
  have := dgF_size 3 k
  have : (⟨#[109]⟩ : ByteArray).size = 1 := rfl
  omega
def MtR (w : World) (D : ByteArray) (k : Nat) (v q : Value) (wr : World) : Prop :=
  ∃ (T : ByteArray) (n : Nat), v = .string T ∧ q = .int .i64 n ∧ n < 10 ^ k ∧ k ≤ 3 ∧ T.size + k ≤ 3 ∧ dgF k n ++ T = D ∧ Below w.heap.size w wr
set_option maxHeartbeats 1000000 in
set_option maxRecDepth 100000 in
theorem markText_any (k : Nat) (h1 : 1 ≤ k) (h2 : k ≤ 999) (w : World) : Calls Tryd.prog 50 #[.int .i64 k] w (Ret w (.string (mtB k))) := by
  unfold mtB
  generalize hD : dgF 3 k = D
  have HD := Lib.hid hD
  have hDs : D.size ≤ 3 := by rw [← hD]; exact dgF_size 3 k
  have hk : ¬ ((k : Int) ≤ 0) := by omega
  clear hD
  go_enter Tryd.func50, Tryd.ntmps50
  go_wp2_with fail
  go_loopg [3, 0] 3 (fun g v q wr => MtR w D g v q wr)
  case atStart => exact ⟨⟨#[]⟩, k, rfl, rfl, by omega, by omega, by decide, by rw [HD.out]; exact ByteArray.append_empty, Below.refl _ _⟩
  case round =>
    obtain ⟨T, n, rfl, rfl, hn, hk3, hT, hDD, hbw⟩ := hrel
    have hs := hbw.size
    have hn999 : n < 1000 := by
      have : 10 ^ gk ≤ 10 ^ 3 := Nat.pow_le_pow_right (by omega) hk3
      omega
    by_cases hn0 : n = 0
    · subst hn0
      rw [dgF_zero] at hDD
      have hDT : T = D := by rw [← hDD]; exact ByteArray.empty_append.symm
      subst hDT
      clear hDD
      go_wp2
      go_ret
      refine ⟨by first | rfl | (simp), ?_⟩
      repeat' (first | (with_reducible exact Below.refl _ _) | (with_reducible assumption) | (with_reducible refine Below.alloc ?_ ?_ _) | (with_reducible refine Below.drew ?_) | (with_reducible refine bdrewN ?_ _) | (with_reducible refine Below.setCell ?_ ?_ _) | (with_reducible refine bthen ?_ (by assumption) ?_) | go_size)
    · cases gk with
      | zero => simp at hn; omega
      | succ gk =>
      have hnp : (0 : Int) < (n : Int) := by omega
      have hD2 : dgF gk (n / 10) ++ (dgB n ++ T) = D := by rw [← hDD, dgF_step hn0, ByteArray.append_assoc]
      have hdiv : n / 10 < 10 ^ gk := by
        rw [Nat.pow_succ] at hn
        exact Nat.div_lt_of_lt_mul (by omega)
      have hcv : (convert 33 9 (.slice (some ⟨wr.heap.size, 0, none⟩) 1 1)).run Tryd.prog (wr.alloc (.cells #[.int .u8 (48 + (n : Int) % 10)] 5)) = .ok (.string (dgB n)) (wr.alloc (.cells #[.int .u8 (48 + (n : Int) % 10)] 5)) := by
        have h := run_convert_bytes_back (P := Tryd.prog) (wr.alloc (.cells #[.int .u8 (48 + (n : Int) % 10)] 5)) 33 9 5 ⟨wr.heap.size, 0, none⟩ 1 [Lib.dg n 0] Tryd.underlying33 Tryd.underlying5 Tryd.underlying9 (fun j hj => by
          have hj0 : j = 0 := by simpa using hj
          subst hj0
          have e1 : (⟨wr.heap.size, 0, none⟩ : Addr).add 0 = ⟨wr.heap.size, 0, none⟩ := by simp [Addr.add]
          rw [e1, (Blk.new wr 5 #[.int .u8 (48 + (n : Int) % 10)]).cell 0]
          have := dg_byte n 0
          rw [Nat.pow_zero, Nat.div_one] at this
          simp [this])
        exact h
      have hB1 := dgB_size n
      have hdv : (n : Int).tdiv 10 = ((n / 10 : Nat) : Int) := by rw [Int.tdiv_eq_ediv_of_nonneg (by omega)]; omega
      have HD2 := Lib.hid hD2
      have HDV := Lib.hid hdiv
      generalize hBB : dgB n = B at *
      clear hDD hD2 hdiv hn hBB
      go_wp2
      go_roundg gk
      case measure => omega
      case rel =>
        refine ⟨B ++ T, n / 10, rfl, ?_, HDV.out, by omega, by rw [ByteArray.size_append]; omega, HD2.out, ?_⟩
        · first | rfl | go_num | (rw [hdv])
        · repeat' (first | (with_reducible exact Below.refl _ _) | (with_reducible assumption) | (with_reducible refine Below.alloc ?_ ?_ _) | (with_reducible refine Below.drew ?_) | (with_reducible refine bdrewN ?_ _) | (with_reducible refine Below.setCell ?_ ?_ _) | (with_reducible refine bthen ?_ (by assumption) ?_) | go_size)
end Go.Proofs.YtlmmpeeacjbobaaDoor
