/-
  The codes of fractions that must be positive.
-/
import Derived.Test.YtlmmpeeacjbobaaGreatDoorFr
import Derived.Test.YtlmmpeeacjbobaaGreatDoorFrac2
namespace Go.Proofs.YtlmmpeeacjbobaaGreatDoor
open Go.RowKit

def posC (n d : Int) : Int := if okF n d then (if 1 ≤ n then 0 else 2) else 1
def posT (a b c d : Int) : Int := if okF a b = true ∧ okF c d = true then (if 1 ≤ a ∧ 1 ≤ c then 0 else 2) else 1
def CkR (W w : World) (n : Nat) (p : Nat → Prop) (k : Nat) (z : Value) (wr : World) : Prop :=
  ∃ j : Nat, j ≤ n ∧ k = n - j ∧ z = .int .i64 (j : Nat) ∧ (∀ t, t < j → p t) ∧ Below W.heap.size w wr
set_option maxHeartbeats 2000000 in
theorem checkPositive_any (n c g : Nat) (xs ys : Nat → Int) (hn : n ≤ 2) (hc : n ≤ c) (hcm : c ≤ 2) (w : World) (hg : g < w.heap.size)
    (hx : ∀ j, j < n → w.cell? ⟨g, j * 2, none⟩ = some (.int .i64 (xs j)) ∧ w.cell? ⟨g, j * 2 + 1, none⟩ = some (.int .i64 (ys j)))
    (r : Int) (hr : (if ∀ t, t < n → okF (xs t) (ys t) = true then (if ∀ t, t < n → 1 ≤ xs t then 0 else 2) else 1) = r) :
    Calls Tryz.prog 37 #[.slice (some ⟨g, 0, none⟩) n c] w (Ret w (.int .i64 r)) := by
  have HR := Lib.hid hr
  have HX := Lib.hid hx
  clear hr hx
  go_enter Tryz.func37, Tryz.ntmps37
  go_wp2_with fail
  go_loopg [9] n (CkR w w n (fun t => okF (xs t) (ys t) = true))
  case atStart => exact ⟨0, by omega, by omega, rfl, fun t ht => absurd ht (by omega), Below.refl _ _⟩
  case round =>
    obtain ⟨j, hj1, hj2, rfl, hall, hbw⟩ := hrel
    have HA := Lib.hid hall
    clear hall
    have hs := hbw.size
    by_cases hjn : j < n
    · have c1 : wr.cell? ⟨g, j * 2, none⟩ = some (.int .i64 (xs j)) := (hbw.cell (p := ⟨g, j * 2, none⟩) hg).trans (HX.out j hjn).1
      have c2 : wr.cell? ⟨g, j * 2 + 1, none⟩ = some (.int .i64 (ys j)) := (hbw.cell (p := ⟨g, j * 2 + 1, none⟩) hg).trans (HX.out j hjn).2
      have hgw : g < wr.heap.size := by omega
      have hjn' : (j : Int) < (n : Int) := by omega
      cases ho : okF (xs j) (ys j)
      · obtain rfl : 1 = r := by
          rw [← HR.out, if_neg]
          intro h
          have := h j hjn
          rw [ho] at this
          cases this
        have HO := Lib.hid ho
        clear ho HR
        go_wp2_with fail
        apply Calls.mono
        · with_reducible exact validFraction_any _ _ false HO.out _
        rintro _ w3 ⟨rfl, hb_w3⟩
        obtain ⟨hc_w3, hf_w3, hs_w3⟩ := bcell hb_w3
        try simp at hs_w3
        have hz_w3_wr0 : wr.heap.size < w3.heap.size := by omega
        have hy_w3_wr0 : wr.heap.size ≤ w3.heap.size := by omega
        have hx_w3_wr0 : ∀ n : Nat, wr.heap.size < w3.heap.size + n := by intro n; omega
        have hv_w3_wr0 : ∀ n : Nat, wr.heap.size ≤ w3.heap.size + n := by intro n; omega
        go_wp2
        go_ret
        refine ⟨by first | rfl | (simp), ?_⟩
        repeat' (first | (with_reducible exact Below.refl _ _) | (with_reducible assumption) | (with_reducible refine Below.alloc ?_ ?_ _) | (with_reducible refine Below.drew ?_) | (with_reducible refine bdrewN ?_ _) | (with_reducible refine Below.setCell ?_ ?_ _) | (with_reducible refine bthen ?_ (by assumption) ?_) | go_size)
      · have HO := Lib.hid ho
        clear ho
        go_wp2_with fail
        apply Calls.mono
        · with_reducible exact validFraction_any _ _ true HO.out _
        rintro _ w3 ⟨rfl, hb_w3⟩
        obtain ⟨hc_w3, hf_w3, hs_w3⟩ := bcell hb_w3
        try simp at hs_w3
        have hz_w3_wr0 : wr.heap.size < w3.heap.size := by omega
        have hy_w3_wr0 : wr.heap.size ≤ w3.heap.size := by omega
        have hx_w3_wr0 : ∀ n : Nat, wr.heap.size < w3.heap.size + n := by intro n; omega
        have hv_w3_wr0 : ∀ n : Nat, wr.heap.size ≤ w3.heap.size + n := by intro n; omega
        go_wp2
        go_roundg (gk - 1)
        case measure => omega
        case rel =>
          refine ⟨j + 1, by omega, by omega, by go_num, ?_, ?_⟩
          · intro t ht
            by_cases e : t = j
            · subst e; exact HO.out
            · exact HA.out t (by omega)
          · repeat' (first | (with_reducible exact Below.refl _ _) | (with_reducible assumption) | (with_reducible refine Below.alloc ?_ ?_ _) | (with_reducible refine Below.drew ?_) | (with_reducible refine bdrewN ?_ _) | (with_reducible refine Below.setCell ?_ ?_ _) | (with_reducible refine bthen ?_ (by assumption) ?_) | go_size)
    · obtain rfl : j = n := by omega
      have hr2 := HR.out
      rw [if_pos HA.out] at hr2
      have HR2 := Lib.hid hr2
      clear hr2 HR HA hj1 hj2 hjn
      have hjn' : ¬ (j : Int) < (j : Int) := by omega
      generalize j = n at *
      have hgw : g < wr.heap.size := by omega
      go_wp2_with fail
      go_loopg [19] n (CkR w w n (fun t => 1 ≤ xs t))
      case atStart => exact ⟨0, by omega, by omega, rfl, fun t ht => absurd ht (by omega), hbw⟩
      case round =>
        obtain ⟨j, hj1, hj2, rfl, hall, hbw'⟩ := hrel
        have HA := Lib.hid hall
        clear hall
        have hs' := hbw'.size
        by_cases hjn : j < n
        · have c1 : wr.cell? ⟨g, j * 2, none⟩ = some (.int .i64 (xs j)) := (hbw'.cell (p := ⟨g, j * 2, none⟩) hg).trans (HX.out j hjn).1
          have c2 : wr.cell? ⟨g, j * 2 + 1, none⟩ = some (.int .i64 (ys j)) := (hbw'.cell (p := ⟨g, j * 2 + 1, none⟩) hg).trans (HX.out j hjn).2
          have hgw : g < wr.heap.size := by omega
          have hjn' : (j : Int) < (n : Int) := by omega
          by_cases h1 : 1 ≤ xs j
          · have h2 : ¬ xs j ≤ 0 := by omega
            go_wp2
            go_roundg (gk - 1)
            case measure => omega
            case rel =>
              refine ⟨j + 1, by omega, by omega, by go_num, ?_, hbw'.alloc hs' _⟩
              intro t ht
              by_cases e : t = j
              · subst e; exact h1
              · exact HA.out t (by omega)
          · have h2 : xs j ≤ 0 := by omega
            obtain rfl : 2 = r := by rw [← HR2.out, if_neg (fun h => h1 (h j hjn))]
            clear HR2
            go_wp2
            go_ret
            refine ⟨by first | rfl | (simp), ?_⟩
            repeat' (first | (with_reducible exact Below.refl _ _) | (with_reducible assumption) | (with_reducible refine Below.alloc ?_ ?_ _) | (with_reducible refine Below.drew ?_) | (with_reducible refine bdrewN ?_ _) | (with_reducible refine Below.setCell ?_ ?_ _) | (with_reducible refine bthen ?_ (by assumption) ?_) | go_size)
        · obtain rfl : j = n := by omega
          obtain rfl : 0 = r := by rw [← HR2.out, if_pos HA.out]
          clear HR2
          have hjn' : ¬ (j : Int) < (j : Int) := by omega
          go_wp2
          go_ret
          refine ⟨by first | rfl | (simp), ?_⟩
          repeat' (first | (with_reducible exact Below.refl _ _) | (with_reducible assumption) | (with_reducible refine Below.alloc ?_ ?_ _) | (with_reducible refine Below.drew ?_) | (with_reducible refine bdrewN ?_ _) | (with_reducible refine Below.setCell ?_ ?_ _) | (with_reducible refine bthen ?_ (by assumption) ?_) | go_size)
end Go.Proofs.YtlmmpeeacjbobaaGreatDoor
