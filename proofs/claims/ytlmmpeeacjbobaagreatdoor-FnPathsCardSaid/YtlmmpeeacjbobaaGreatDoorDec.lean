/-
  Decimal texts: both packages' ways give the same bytes.
-/
import Derived.Test.YtlmmpeeacjbobaaGreatDoorRow
import Derived.Test.YtlmmpeeacjbobaaGreatDoorBase
import Derived.Test.YtlmmpeeacjbobaaGreatDoorShelf
import Derived.Lib.AppendIntMem
import Derived.Lib.ItoaLen
import Derived.Maps.AppendAt
import Derived.Laws.IdiomStrings
import Derived.Deep.AppendLies
namespace Go.Proofs.YtlmmpeeacjbobaaGreatDoor
open Go.RowKit

/-- The library's table of the powers of ten reads as its text lays it. -/
def Tb (w : World) : Prop := Lib.TabIs Tryz.prog w "internal/strconv.uint64pow10" .u64 Lib.pow10Tab
theorem Tb.below {w w' : World} (h : Tb w) (hb : Below w.heap.size w w') : Tb w' := Lib.tabBelow_of_tabIs h w' hb
theorem Tb.alloc {w : World} (h : Tb w) (o : Obj) : Tb (w.alloc o) := h.below ((Below.refl _ _).alloc (Nat.le_refl _) _)
theorem Tb.later {w : World} (h : Tb w) (x : Later w) : Tb x.val := h.below x.property
def decB (n : Int) : ByteArray := ⟨(Lib.itoa n).toArray⟩
theorem formatInt_any (n : Int) (h0 : -9223372036854775808 ≤ n) (h1 : n ≤ 9223372036854775807) (w : World) (ht : Tb w) : Calls Tryz.prog 41 #[.int .i64 n, .int .i64 10] w (Ret w (.string (decB n))) := by
  have kF := fun w (h : Tb w) => Tryz.internal_strconv_FormatInt_10 n h0 h1 w h
  go_enter Tryz.func41, Tryz.ntmps41
  go_wp2_with fail
  apply Calls.mono
  · with_reducible exact kF _ ht
  rintro _ w1 ⟨rfl, k, os, rfl⟩
  go_wp2
  go_ret
  exact ⟨rfl, Lib.below_grow _ _ (Nat.le_refl _) _ _⟩
theorem decimal_any (n : Int) (h0 : -9223372036854775808 ≤ n) (h1 : n ≤ 9223372036854775807) (w : World) (ht : Tb w) : Calls Tryz.prog 21 #[.int .i64 n] w (Ret w (.string (decB n))) := by
  go_enter Tryz.func21, Tryz.ntmps21
  go_wp2_with fail
  apply Calls.mono
  · with_reducible exact formatInt_any n h0 h1 _ ht
  rintro _ w1 ⟨rfl, hb_w1⟩
  go_wp2
  go_ret
  exact ⟨rfl, hb_w1⟩
/-- The t lowest digits. -/
def loD (u t : Nat) : List UInt8 := (List.range t).map fun i => Lib.dg u (t - 1 - i)
theorem loD_succ (u t : Nat) : loD u (t + 1) = Lib.dg u t :: loD u t := by
  unfold loD
  rw [List.range_succ_eq_map, List.map_cons, List.map_map]
  congr 1
  apply List.map_congr_left
  intro i hi
  rw [List.mem_range] at hi
  show Lib.dg u (t + 1 - 1 - (i + 1)) = _
  congr 1
  omega
theorem loD_len (u t : Nat) : (loD u t).length = t := by simp [loD]
theorem loD_end {u t : Nat} (h1 : t = 0 ∨ 10 ^ (t - 1) ≤ u) (h2 : u < 10 ^ t) (h3 : 1 ≤ u) : loD u t = Lib.decDigits u := by
  rcases h1 with rfl | h1
  · simp at h2; omega
  · have ht : t ≠ 0 := by rintro rfl; simp at h2; omega
    have : Lib.nDigits u = t := by
      have := Lib.nDigits_unique (t - 1) u h1 (by rw [show t - 1 + 1 = t by omega]; exact h2)
      omega
    rw [Lib.decDigits_eq, this]
    rfl
theorem Tryz.infoB : (Tryz.prog.info? 5).map (fun i => (i.zero, i.size, i.bytes)) = some (some (.int .u8 0), 1, 1) := by kernel_rfl
theorem bc_one (l : List UInt8) : ∀ u ∈ Lib.byteCells l, u.oneCell' = true := by
  intro u hu
  simp only [Lib.byteCells, List.mem_map] at hu
  obtain ⟨z, _, rfl⟩ := hu
  rfl
theorem bc_len (l : List UInt8) : (Lib.byteCells l).length = l.length := by simp [Lib.byteCells]
theorem dg_byte (u t : Nat) : ((Lib.dg u t).toNat : Int) = 48 + ((u / 10 ^ t % 10 : Nat) : Int) := by
  unfold Lib.dg
  rw [UInt8.toNat_ofNat']
  omega
def DecR (w : World) (s : Bool) (u : Nat) (k : Nat) (v vk : Value) (wr : World) : Prop :=
  ∃ t : Nat, t ≤ 19 ∧ u / 10 ^ t ≤ k ∧ (t = 0 ∨ 10 ^ (t - 1) ≤ u) ∧ vk = .int .i64 (if s then -((u / 10 ^ t : Nat) : Int) else ((u / 10 ^ t : Nat) : Int)) ∧ wr.ownsRow w.heap.size 5 1 v t (Lib.byteCells (loD u t)) ∧ (∃ g c, v = .slice (some ⟨g, 0, none⟩) t c) ∧ Below w.heap.size w wr
set_option maxHeartbeats 4000000 in
set_option maxRecDepth 100000 in
theorem l01Dec_pos (u : Nat) (h1 : u ≤ 9223372036854775807) (w : World) : Calls Tryz.prog 48 #[.int .i64 ((u : Int))] w (Ret w (.string (decB ((u : Int))))) := by
  obtain ⟨i1, hi1, hy0, hy1, hy2⟩ := info_parts Tryz.infoB
  obtain ⟨D, hD⟩ : ∃ D, decB ((u : Int)) = D := ⟨_, rfl⟩
  rw [hD]
  have HD := Lib.hid hD
  clear hD
  go_enter Tryz.func48, Tryz.ntmps48
  go_wp2_with fail
  go_loopg [3, 4] u (DecR w false u)
  case atStart => exact ⟨0, by omega, by simp, .inl rfl, by simp, World.ownsRow_lit w #[] 0 (Nat.le_refl _) (by simp [maxLen]) (by simp), ⟨_, _, rfl⟩, (Below.refl _ _).alloc (Nat.le_refl _) _⟩
  case round =>
    obtain ⟨t, ht, htk, hmin, rfl, hown, ⟨g, c, rfl⟩, hbw⟩ := hrel
    rw [if_neg (by decide)]
    have HM := Lib.hid hmin
    clear hmin
    have hcell : ∀ j u', (Lib.byteCells (loD u t))[j]? = some u' → wr.cell? ⟨g, j, none⟩ = some u' := fun j u' hu => by
      have hj : j < t * 1 := by
        rcases Nat.lt_or_ge j (t * 1) with h' | h'
        · exact h'
        · rw [List.getElem?_eq_none (by rw [bc_len, loD_len]; omega)] at hu; cases hu
      exact (hown.cellAt j hj).trans hu
    have hgl : 1 ≤ t → g < wr.heap.size := fun h => by
      rcases hown.2 with ⟨_, h0⟩ | ⟨g', cap, cur, e, hgb, hg, _⟩
      · omega
      · have e : (⟨g, 0, none⟩ : Addr) = ⟨g', 0, none⟩ := by injection e with e; injection e
        injection e with e
        subst e
        exact (Array.getElem?_eq_some_iff.1 hg).1
    have qr := hbw.size
    generalize hK : u / 10 ^ t = K at *
    have HK := Lib.hid hK
    have HC := Lib.hid hcell
    have HG := Lib.hid hgl
    have hKb : (K : Int) ≤ 9223372036854775807 := by
      have := Nat.div_le_self u (10 ^ t)
      omega
    clear hK hown hcell hgl
    by_cases hK0 : K = 0
    · subst hK0
      have hlt : u < 10 ^ t := by
        rcases (Nat.div_eq_zero_iff).1 HK.out with h | h
        · have := Nat.pow_pos (n := t) (show 0 < 10 by omega); omega
        · exact h
      by_cases ht0 : t = 0
      · subst ht0
        obtain rfl : u = 0 := by simp at hlt; omega
        obtain rfl : (⟨#[48]⟩ : ByteArray) = D := by rw [← HD.out]; decide +kernel
        clear hlt
        go_wp2
        go_ret
        exact ⟨rfl, hbw⟩
      · have hu1 : 1 ≤ u := by
          rcases HM.out with h | h
          · exact absurd h ht0
          · have := Nat.pow_pos (n := t - 1) (show 0 < 10 by omega); omega
        have hend := loD_end HM.out hlt hu1
        have hcv : (convert 22 9 (.slice (some ⟨g, 0, none⟩) t c)).run Tryz.prog wr = .ok (.string ⟨(loD u t).toArray⟩) wr := by
          have h := run_convert_bytes_back (P := Tryz.prog) wr 22 9 5 ⟨g, 0, none⟩ c (loD u t) Tryz.underlying22 Tryz.underlying5 Tryz.underlying9 (fun j hj => by
            have e1 : (⟨g, 0, none⟩ : Addr).add j = ⟨g, 0 + j, none⟩ := by unfold Addr.add; by_cases h : j = 0 <;> simp [h]
            rw [e1, Nat.zero_add]
            exact HC.out j _ (by simp [Lib.byteCells, hj]))
          rw [loD_len] at h
          exact h
        have hDD : D = ⟨(loD u t).toArray⟩ := by
          rw [← HD.out, hend]
          show (⟨(Lib.itoa (u : Int)).toArray⟩ : ByteArray) = _
          rw [Lib.itoa_nonneg]
        have HDD := Lib.hid hDD
        have hsz : (⟨(loD u t).toArray⟩ : ByteArray).size ≤ 19 := by
          show (loD u t).toArray.size ≤ 19
          rw [List.size_toArray, loD_len]
          exact ht
        generalize hB : (⟨(loD u t).toArray⟩ : ByteArray) = B at *
        have ht1 : ((t : Int) == 0) = false := by simpa using ht0
        clear hlt hend hDD hB
        go_wp2
        go_ret
        exact ⟨by rw [HDD.out]; rfl, hbw⟩
    · have hK1 : (1 : Int) ≤ (K : Int) := by omega
      have ht18 : t ≤ 18 := by
        rcases Nat.lt_or_ge 18 t with h | h
        · exfalso
          have hz : u / 10 ^ t = 0 := Nat.div_eq_of_lt (Nat.lt_of_lt_of_le (show u < 10 ^ 19 by omega) (Nat.pow_le_pow_right (by omega) (by omega)))
          rw [HK.out] at hz
          exact hK0 hz
        · exact h
      have hnews : ∀ j u', (Lib.byteCells (loD u t))[j]? = some u' → (wr.alloc (.cells #[.int .u8 (48 + (K : Int) % 10)] 5)).cell? ((⟨g, 0, none⟩ : Addr).add j) = some u' := fun j u' hu => by
        have hj : 1 ≤ t := by
          rcases Nat.lt_or_ge 0 t with h' | h'
          · exact h'
          · rw [List.getElem?_eq_none (by rw [bc_len, loD_len]; omega)] at hu; cases hu
        have e1 : (⟨g, 0, none⟩ : Addr).add j = ⟨g, 0 + j, none⟩ := by unfold Addr.add; by_cases h : j = 0 <;> simp [h]
        rw [e1, World.cell?_alloc_lt wr _ _ (by simpa using HG.out hj), Nat.zero_add]
        exact HC.out j u' hu
      have KA : ∀ v1 w1, World.ownsRow w1 w.heap.size 5 1 v1 (1 + t) ([.int .u8 (48 + (K : Int) % 10)] ++ Lib.byteCells (loD u t)) → (wr.alloc (.cells #[.int .u8 (48 + (K : Int) % 10)] 5)).grownBy w1 (Value.ownBlock (.slice (some ⟨wr.heap.size, 0, none⟩) 1 1)) → (∃ g1 c1, v1 = .slice (some ⟨g1, 0, none⟩) (t + 1) c1) ∧ World.ownsRow w1 w.heap.size 5 1 v1 (t + 1) (Lib.byteCells (loD u (t + 1))) ∧ Below w.heap.size w w1 := fun v1 w1 ho hg => by
        have e : ([.int .u8 (48 + (K : Int) % 10)] ++ Lib.byteCells (loD u t) : List Value) = Lib.byteCells (loD u (t + 1)) := by
          rw [loD_succ]
          show _ = Value.int .u8 ((Lib.dg u t).toNat : Int) :: Lib.byteCells (loD u t)
          rw [dg_byte, HK.out]
          rfl
        rw [e, Nat.add_comm 1 t] at ho
        refine ⟨?_, ho, (hbw.alloc qr _).grown hg (by rw [World.size_alloc]; omega) (fun k hk => by have e : some wr.heap.size = some k := hk; injection e with e; omega)⟩
        rcases ho.2 with ⟨_, h0⟩ | ⟨g', cap, cur, e, _⟩
        · omega
        · exact ⟨g', cap, e⟩
      have HN := Lib.hid hnews
      have HKA := Lib.hid KA
      clear hnews KA
      have hmod0 : (0 : Int) ≤ (K : Int) % 10 := Int.emod_nonneg _ (by decide)
      have hmod1 : (K : Int) % 10 < 10 := Int.emod_lt_of_pos _ (by decide)
      go_wp2_with (at_builtin; refine wpList_append_own_at _ rfl (.tmp 21) (.tmp 22) 22 rfl w.heap.size 5 i1 _ 1 1 Tryz.underlying22 hi1 hy0 hy1 hy2 rfl (by decide) _ 1 [.int .u8 (48 + (K : Int) % 10)] rfl (World.ownsRow_lit wr #[.int .u8 (48 + (K : Int) % 10)] 1 (by omega) (by simp [maxLen]) (by simp)) ⟨g, 0, none⟩ t c (Lib.byteCells (loD u t)) rfl (by rw [bc_len, loD_len, Nat.mul_one]) HN.out (bc_one _) (by simp only [maxLen]; omega) (by omega) (by rw [World.size_alloc]; omega) ?_; intro v1 w1 hown1 hgr1 _ _; obtain ⟨⟨g1, c1, rfl⟩, ho1, bel1⟩ := HKA.out _ _ hown1 hgr1)
      go_roundg (K / 10)
      case measure => omega
      case rel =>
        have hdd : u / 10 ^ (t + 1) = K / 10 := by rw [Nat.pow_succ, ← Nat.div_div_eq_div_mul, HK.out]
        refine ⟨t + 1, by omega, by rw [hdd]; exact Nat.le_refl _, .inr ?_, ?_, ho1, ⟨g1, c1, rfl⟩, bel1⟩
        · rw [Nat.add_sub_cancel]
          rcases Nat.lt_or_ge u (10 ^ t) with h | h
          · have := Nat.div_eq_of_lt h
            rw [HK.out] at this
            omega
          · exact h
        · rw [hdd]
          simp
set_option maxHeartbeats 4000000 in
set_option maxRecDepth 100000 in
theorem l01Dec_neg (u : Nat) (h0 : 1 ≤ u) (h1 : u ≤ 9223372036854775808) (w : World) : Calls Tryz.prog 48 #[.int .i64 (-(u : Int))] w (Ret w (.string (decB (-(u : Int))))) := by
  obtain ⟨i1, hi1, hy0, hy1, hy2⟩ := info_parts Tryz.infoB
  obtain ⟨D, hD⟩ : ∃ D, decB (-(u : Int)) = D := ⟨_, rfl⟩
  rw [hD]
  have HD := Lib.hid hD
  clear hD
  go_enter Tryz.func48, Tryz.ntmps48
  go_wp2_with fail
  go_loopg [3, 4] u (DecR w true u)
  case atStart => exact ⟨0, by omega, by simp, .inl rfl, by simp, World.ownsRow_lit w #[] 0 (Nat.le_refl _) (by simp [maxLen]) (by simp), ⟨_, _, rfl⟩, (Below.refl _ _).alloc (Nat.le_refl _) _⟩
  case round =>
    obtain ⟨t, ht, htk, hmin, rfl, hown, ⟨g, c, rfl⟩, hbw⟩ := hrel
    rw [if_pos (by decide)]
    have HM := Lib.hid hmin
    clear hmin
    have hcell : ∀ j u', (Lib.byteCells (loD u t))[j]? = some u' → wr.cell? ⟨g, j, none⟩ = some u' := fun j u' hu => by
      have hj : j < t * 1 := by
        rcases Nat.lt_or_ge j (t * 1) with h' | h'
        · exact h'
        · rw [List.getElem?_eq_none (by rw [bc_len, loD_len]; omega)] at hu; cases hu
      exact (hown.cellAt j hj).trans hu
    have hgl : 1 ≤ t → g < wr.heap.size := fun h => by
      rcases hown.2 with ⟨_, h0⟩ | ⟨g', cap, cur, e, hgb, hg, _⟩
      · omega
      · have e : (⟨g, 0, none⟩ : Addr) = ⟨g', 0, none⟩ := by injection e with e; injection e
        injection e with e
        subst e
        exact (Array.getElem?_eq_some_iff.1 hg).1
    have qr := hbw.size
    generalize hK : u / 10 ^ t = K at *
    have HK := Lib.hid hK
    have HC := Lib.hid hcell
    have HG := Lib.hid hgl
    have hKb : (K : Int) ≤ 9223372036854775808 := by
      have := Nat.div_le_self u (10 ^ t)
      omega
    clear hK hown hcell hgl
    by_cases hK0 : K = 0
    · subst hK0
      have hlt : u < 10 ^ t := by
        rcases (Nat.div_eq_zero_iff).1 HK.out with h | h
        · have := Nat.pow_pos (n := t) (show 0 < 10 by omega); omega
        · exact h
      have ht0 : t ≠ 0 := by
        rintro rfl
        simp at hlt
        omega
      have hu1 := h0
      have hend := loD_end HM.out hlt hu1
      have hcv : (convert 22 9 (.slice (some ⟨g, 0, none⟩) t c)).run Tryz.prog wr = .ok (.string ⟨(loD u t).toArray⟩) wr := by
        have h := run_convert_bytes_back (P := Tryz.prog) wr 22 9 5 ⟨g, 0, none⟩ c (loD u t) Tryz.underlying22 Tryz.underlying5 Tryz.underlying9 (fun j hj => by
          have e1 : (⟨g, 0, none⟩ : Addr).add j = ⟨g, 0 + j, none⟩ := by unfold Addr.add; by_cases h : j = 0 <;> simp [h]
          rw [e1, Nat.zero_add]
          exact HC.out j _ (by simp [Lib.byteCells, hj]))
        rw [loD_len] at h
        exact h
      have hDD : D = ⟨#[45]⟩ ++ ⟨(loD u t).toArray⟩ := by
        rw [← HD.out, hend]
        show (⟨(Lib.itoa (-(u : Int))).toArray⟩ : ByteArray) = _
        rw [Lib.itoa_neg u h0]
        rfl
      have HDD := Lib.hid hDD
      have hsz : (⟨(loD u t).toArray⟩ : ByteArray).size ≤ 19 := by
        show (loD u t).toArray.size ≤ 19
        rw [List.size_toArray, loD_len]
        exact ht
      generalize hB : (⟨(loD u t).toArray⟩ : ByteArray) = B at *
      have ht1 : ((t : Int) == 0) = false := by simpa using ht0
      clear hlt hend hDD hB
      go_wp2
      go_ret
      exact ⟨by rw [HDD.out]; rfl, hbw⟩
    · have hK1 : (1 : Int) ≤ (K : Int) := by omega
      have ht18 : t ≤ 18 := by
        rcases Nat.lt_or_ge 18 t with h | h
        · exfalso
          have hz : u / 10 ^ t = 0 := Nat.div_eq_of_lt (Nat.lt_of_lt_of_le (show u < 10 ^ 19 by omega) (Nat.pow_le_pow_right (by omega) (by omega)))
          rw [HK.out] at hz
          exact hK0 hz
        · exact h
      have hnews : ∀ j u', (Lib.byteCells (loD u t))[j]? = some u' → (wr.alloc (.cells #[.int .u8 (48 + (K : Int) % 10)] 5)).cell? ((⟨g, 0, none⟩ : Addr).add j) = some u' := fun j u' hu => by
        have hj : 1 ≤ t := by
          rcases Nat.lt_or_ge 0 t with h' | h'
          · exact h'
          · rw [List.getElem?_eq_none (by rw [bc_len, loD_len]; omega)] at hu; cases hu
        have e1 : (⟨g, 0, none⟩ : Addr).add j = ⟨g, 0 + j, none⟩ := by unfold Addr.add; by_cases h : j = 0 <;> simp [h]
        rw [e1, World.cell?_alloc_lt wr _ _ (by simpa using HG.out hj), Nat.zero_add]
        exact HC.out j u' hu
      have KA : ∀ v1 w1, World.ownsRow w1 w.heap.size 5 1 v1 (1 + t) ([.int .u8 (48 + (K : Int) % 10)] ++ Lib.byteCells (loD u t)) → (wr.alloc (.cells #[.int .u8 (48 + (K : Int) % 10)] 5)).grownBy w1 (Value.ownBlock (.slice (some ⟨wr.heap.size, 0, none⟩) 1 1)) → (∃ g1 c1, v1 = .slice (some ⟨g1, 0, none⟩) (t + 1) c1) ∧ World.ownsRow w1 w.heap.size 5 1 v1 (t + 1) (Lib.byteCells (loD u (t + 1))) ∧ Below w.heap.size w w1 := fun v1 w1 ho hg => by
        have e : ([.int .u8 (48 + (K : Int) % 10)] ++ Lib.byteCells (loD u t) : List Value) = Lib.byteCells (loD u (t + 1)) := by
          rw [loD_succ]
          show _ = Value.int .u8 ((Lib.dg u t).toNat : Int) :: Lib.byteCells (loD u t)
          rw [dg_byte, HK.out]
          rfl
        rw [e, Nat.add_comm 1 t] at ho
        refine ⟨?_, ho, (hbw.alloc qr _).grown hg (by rw [World.size_alloc]; omega) (fun k hk => by have e : some wr.heap.size = some k := hk; injection e with e; omega)⟩
        rcases ho.2 with ⟨_, h0⟩ | ⟨g', cap, cur, e, _⟩
        · omega
        · exact ⟨g', cap, e⟩
      have HN := Lib.hid hnews
      have HKA := Lib.hid KA
      clear hnews KA
      have hmod0 : (0 : Int) ≤ (K : Int) % 10 := Int.emod_nonneg _ (by decide)
      have hmod1 : (K : Int) % 10 < 10 := Int.emod_lt_of_pos _ (by decide)
      have htm : (-(K : Int)).tmod 10 = -((K : Int) % 10) := by rw [Int.neg_tmod, Int.tmod_eq_emod_of_nonneg (by omega)]
      have htd : (-(K : Int)).tdiv 10 = -((K : Int) / 10) := by rw [Int.neg_tdiv, Int.tdiv_eq_ediv_of_nonneg (by omega)]
      by_cases hz : (K : Int) % 10 = 0
      · have htm0 : (-(K : Int)).tmod 10 = 0 := by rw [htm, hz]; rfl
        clear htm
        rw [hz] at HN HKA
        clear hz hmod0 hmod1
        go_wp2_with (at_builtin; refine wpList_append_own_at _ rfl (.tmp 21) (.tmp 22) 22 rfl w.heap.size 5 i1 _ 1 1 Tryz.underlying22 hi1 hy0 hy1 hy2 rfl (by decide) _ 1 [.int .u8 (48)] rfl (World.ownsRow_lit wr #[.int .u8 (48)] 1 (by omega) (by simp [maxLen]) (by simp)) ⟨g, 0, none⟩ t c (Lib.byteCells (loD u t)) rfl (by rw [bc_len, loD_len, Nat.mul_one]) HN.out (bc_one _) (by simp only [maxLen]; omega) (by omega) (by rw [World.size_alloc]; omega) ?_; intro v1 w1 hown1 hgr1 _ _; obtain ⟨⟨g1, c1, rfl⟩, ho1, bel1⟩ := HKA.out _ _ hown1 hgr1)
        go_roundg (K / 10)
        case measure => omega
        case rel =>
          have hdd : u / 10 ^ (t + 1) = K / 10 := by rw [Nat.pow_succ, ← Nat.div_div_eq_div_mul, HK.out]
          refine ⟨t + 1, by omega, by rw [hdd]; exact Nat.le_refl _, .inr ?_, ?_, ho1, ⟨g1, c1, rfl⟩, bel1⟩
          · rw [Nat.add_sub_cancel]
            rcases Nat.lt_or_ge u (10 ^ t) with h | h
            · have := Nat.div_eq_of_lt h
              rw [HK.out] at this
              omega
            · exact h
          · rw [hdd]
            simp
      · have hzp : 0 < (K : Int) % 10 := by omega
        have hzn : ¬ (0 : Int) ≤ -((K : Int) % 10) := by omega
        clear hz
        go_wp2_with (at_builtin; refine wpList_append_own_at _ rfl (.tmp 21) (.tmp 22) 22 rfl w.heap.size 5 i1 _ 1 1 Tryz.underlying22 hi1 hy0 hy1 hy2 rfl (by decide) _ 1 [.int .u8 (48 + (K : Int) % 10)] rfl (World.ownsRow_lit wr #[.int .u8 (48 + (K : Int) % 10)] 1 (by omega) (by simp [maxLen]) (by simp)) ⟨g, 0, none⟩ t c (Lib.byteCells (loD u t)) rfl (by rw [bc_len, loD_len, Nat.mul_one]) HN.out (bc_one _) (by simp only [maxLen]; omega) (by omega) (by rw [World.size_alloc]; omega) ?_; intro v1 w1 hown1 hgr1 _ _; obtain ⟨⟨g1, c1, rfl⟩, ho1, bel1⟩ := HKA.out _ _ hown1 hgr1)
        go_roundg (K / 10)
        case measure => omega
        case rel =>
          have hdd : u / 10 ^ (t + 1) = K / 10 := by rw [Nat.pow_succ, ← Nat.div_div_eq_div_mul, HK.out]
          refine ⟨t + 1, by omega, by rw [hdd]; exact Nat.le_refl _, .inr ?_, ?_, ho1, ⟨g1, c1, rfl⟩, bel1⟩
          · rw [Nat.add_sub_cancel]
            rcases Nat.lt_or_ge u (10 ^ t) with h | h
            · have := Nat.div_eq_of_lt h
              rw [HK.out] at this
              omega
            · exact h
          · rw [hdd]
            simp
theorem l01Dec_any (n : Int) (h0 : -9223372036854775808 ≤ n) (h1 : n ≤ 9223372036854775807) (w : World) : Calls Tryz.prog 48 #[.int .i64 n] w (Ret w (.string (decB n))) := by
  rcases Int.lt_or_le n 0 with h | h
  · obtain ⟨u, rfl⟩ : ∃ u : Nat, n = -(u : Int) := ⟨n.natAbs, by omega⟩
    exact l01Dec_neg u (by omega) (by omega) w
  · obtain ⟨u, rfl⟩ := Int.eq_ofNat_of_zero_le h
    exact l01Dec_pos u (by omega) w
end Go.Proofs.YtlmmpeeacjbobaaGreatDoor
