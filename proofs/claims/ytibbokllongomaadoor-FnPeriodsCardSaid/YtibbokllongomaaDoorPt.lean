/-
  The text of a head and a period: both packages' loops.
-/
import Derived.Test.YtibbokllongomaaDoorSkP
import Derived.Test.YtibbokllongomaaDoorText
namespace Go.Proofs.YtibbokllongomaaDoor
open Go.RowKit

def sepB (t : Nat) : ByteArray := if t = 0 then ⟨#[]⟩ else if t = 1 then ⟨#[59, 32]⟩ else ⟨#[44, 32]⟩
def parB (n t : Nat) : ByteArray := if t = n then ⟨#[40]⟩ else ⟨#[]⟩
def ptx (n : Nat) (zs : List Int) : Nat → ByteArray
  | 0 => ⟨#[91]⟩
  | t + 1 => ptx n zs t ++ sepB t ++ parB n t ++ decB (zs.getD t 0)
def ptM (hs ls : List Int) : ByteArray := if pdB hs ls then ptx hs.length (hs ++ ls) (hs.length + ls.length) ++ ⟨#[41, 93]⟩ else ⟨#[]⟩
theorem ba_nil (a : ByteArray) : a ++ (⟨#[]⟩ : ByteArray) = a := ByteArray.append_empty
theorem ptx_step {n : Nat} {zs : List Int} {t : Nat} {z : Int} (h : zs[t]? = some z) : ptx n zs (t + 1) = ptx n zs t ++ sepB t ++ parB n t ++ decB z := by
  show _ ++ decB (zs.getD t 0) = _
  rw [List.getD_eq_getElem?_getD, h]
  rfl
theorem sep_size (t : Nat) : (sepB t).size ≤ 2 := by
  unfold sepB
  split
  · decide
  · split <;> decide
theorem par_size (n t : Nat) : (parB n t).size ≤ 1 := by
  unfold parB
  split <;> decide
theorem ptx_size {n : Nat} {zs : List Int} (h : ∀ t ∈ zs, -1000000000 ≤ t ∧ t ≤ 1000000000) : ∀ t, (ptx n zs t).size ≤ 1 + 24 * t
  | 0 => by
    show (⟨#[91]⟩ : ByteArray).size ≤ 1 + 24 * 0
    decide
  | t + 1 => by
    have h1 := ptx_size (n := n) h t
    have h2 := sep_size t
    have h3 := par_size n t
    have h4 : (decB (zs.getD t 0)).size ≤ 21 := by
      have : -1000000000 ≤ zs.getD t 0 ∧ zs.getD t 0 ≤ 1000000000 := by
        rw [List.getD_eq_getElem?_getD]
        rcases Nat.lt_or_ge t zs.length with g | g
        · rw [List.getElem?_eq_getElem g]; exact h _ (List.getElem_mem g)
        · rw [List.getElem?_eq_none g]; simp
      exact decB_size _ (by omega) (by omega)
    show (ptx n zs t ++ sepB t ++ parB n t ++ decB (zs.getD t 0)).size ≤ _
    rw [ByteArray.size_append, ByteArray.size_append, ByteArray.size_append]
    omega
def PtR (w : World) (n1 n : Nat) (zs : List Int) (k : Nat) (v i : Value) (wr : World) : Prop :=
  ∃ t : Nat, t ≤ n ∧ n ≤ t + k ∧ i = .int .i64 t ∧ v = .string (ptx n1 zs t) ∧ Below w.heap.size w wr
set_option maxHeartbeats 2000000 in
set_option maxRecDepth 100000 in
theorem periodTextI_any (v1 v2 : Value) (n1 n2 : Nat) (hs ls : List Int) (w : World) (ht : Tb w) (h1 : Rs w 1 v1 n1 (ints hs)) (h2 : Rs w 1 v2 n2 (ints ls)) (b1 : n1 ≤ 1048576) (b2 : n2 ≤ 1048576) :
    Calls Tryd.prog 12 #[v1, v2] w (Ret w (.string (ptM hs ls))) := by
  have l1 : hs.length = n1 := by have := (rd_len h1.1).1; rw [ints_len] at this; omega
  have l2 : ls.length = n2 := by have := (rd_len h2.1).1; rw [ints_len] at this; omega
  obtain ⟨A1, k1, rfl, -⟩ := id h1.1
  obtain ⟨A2, k2, rfl, -⟩ := id h2.1
  have kA := fun w' (hb : Below w.heap.size w w') => arePeriodic_any _ _ n1 n2 hs ls w' (h1.below hb (Nat.le_refl _)) (h2.below hb (Nat.le_refl _)) b1 b2 _ rfl
  cases hp : pdB hs ls
  · have e : ptM hs ls = ⟨#[]⟩ := by unfold ptM; rw [hp]; rfl
    rw [e]
    rw [hp] at kA
    clear h1 h2 l1 l2 e hp
    go_enter Tryd.func12, Tryd.ntmps12
    go_wp2_with fail
    apply Calls.mono
    · with_reducible exact kA _ (Below.refl _ _)
    rintro _ w1 ⟨rfl, hb_w1⟩
    obtain ⟨hc_w1, hf_w1, hs_w1⟩ := bcell hb_w1
    try simp at hs_w1
    go_wp2
    go_ret
    refine ⟨by first | rfl | (simp), ?_⟩
    repeat' (first | (with_reducible exact Below.refl _ _) | (with_reducible assumption) | (with_reducible refine Below.alloc ?_ ?_ _) | (with_reducible refine Below.drew ?_) | (with_reducible refine bdrewN ?_ _) | (with_reducible refine Below.setCell ?_ ?_ _) | (with_reducible refine bthen ?_ (by assumption) ?_) | go_size)
  · have e : ptM hs ls = ptx n1 (hs ++ ls) (n1 + n2) ++ ⟨#[41, 93]⟩ := by unfold ptM; rw [hp, if_pos rfl, l1, l2]
    rw [e]
    rw [hp] at kA
    obtain ⟨p1, p2, p3, p4, p5, p6⟩ := pd_facts hp
    have hC : ∀ t ∈ hs ++ ls, -1000000000 ≤ t ∧ t ≤ 1000000000 := fun t ht => by
      rcases List.mem_append.1 ht with e | e
      · exact p4 t e
      · have := p2 t e; omega
    have hlen : (hs ++ ls).length = n1 + n2 := by rw [List.length_append, l1, l2]
    have hn60 : n1 + n2 ≤ 60 := by omega
    have hsz := fun t => ptx_size (n := n1) hC t
    have H1 := Lib.hid h1
    have H2 := Lib.hid h2
    have HC := Lib.hid hC
    have HL := Lib.hid hlen
    have HS := Lib.hid hsz
    clear h1 h2 l1 l2 e hp p1 p2 p3 p4 p5 p6 hC hlen hsz
    go_enter Tryd.func12, Tryd.ntmps12
    go_wp2_with fail
    apply Calls.mono
    · with_reducible exact kA _ (Below.refl _ _)
    rintro _ w1 ⟨rfl, hb_w1⟩
    obtain ⟨hc_w1, hf_w1, hs_w1⟩ := bcell hb_w1
    try simp at hs_w1
    have hc := new2 w1 24 (.slice A1 n1 k1) (.slice A2 n2 k2)
    have hB : w1.heap.size < (w1.alloc (.cells #[.slice A1 n1 k1, .slice A2 n2 k2] 24)).heap.size := by rw [World.size_alloc]; omega
    have belA : Below w.heap.size w (w1.alloc (.cells #[.slice A1 n1 k1, .slice A2 n2 k2] 24)) := hb_w1.alloc hb_w1.size _
    have kC := concat_any w1.heap.size _ _ n1 n2 hs ls _ (H1.out.below belA (Nat.le_refl _)) (H2.out.below belA (Nat.le_refl _)) b1 b2 hB hc.1 hc.2
    clear hc hB kA
    go_wp2_with fail
    apply Calls.mono
    · with_reducible exact kC
    rintro _ w2 ⟨v, rfl, hown, hb_w2⟩
    have bel2 : Below w.heap.size w w2 := bthen belA hb_w2 belA.size
    obtain ⟨A3, k3, rfl, hn3, hc3, _, hr3⟩ := Rd.of_own hown
    have R3 := Lib.hid hr3
    have ht2 := ht.below bel2
    clear hown hr3 hb_w1 hb_w2 kC belA hc_w1 hf_w1 hs_w1
    generalize hs ++ ls = zs at *
    generalize hnn : n1 + n2 = n at *
    have e0 : ptx n1 zs 0 = ⟨#[91]⟩ := rfl
    go_wp2_with fail
    go_loopg [5, 17] n (fun k v i wr => PtR w2 n1 n zs k v i wr)
    case atStart => exact ⟨0, by omega, by omega, rfl, by rw [e0], Below.refl _ _⟩
    case round =>
      obtain ⟨t, ht1, ht3, rfl, rfl, hbw⟩ := hrel
      have htr := ht2.below hbw
      have hsr := hbw.size
      have belr : Below w.heap.size w wr := bthen bel2 hbw bel2.size
      have hT := HS.out t
      by_cases htn : t < n
      · obtain ⟨z, hz⟩ := get_ex (l := zs) (k := t) (by have := HL.out; omega)
        rcases R3.out with h0 | ⟨g, o, rfl, hg, hcell⟩
        · omega
        have c1 : wr.cell? ⟨g, o + t, none⟩ = some (.int .i64 z) := (hbw.cell (p := ⟨g, o + t, none⟩) hg).trans (hcell t _ (ints_get hz))
        have hgw : g < wr.heap.size := by omega
        have htn' : (t : Int) < (n : Int) := by omega
        obtain ⟨z1, z2⟩ := HC.out z (List.mem_of_getElem? hz)
        have kD := fun w h => decimal_any z (by omega) (by omega) w h
        have hst := ptx_step (n := n1) hz
        obtain ⟨D, eD, sD⟩ := decB_some z (by omega) (by omega)
        rw [eD] at kD hst
        generalize hT' : ptx n1 zs (t + 1) = T' at *
        generalize ptx n1 zs t = T at *
        have HST := Lib.hid hst
        have HT' := Lib.hid hT'
        clear hcell hz hst eD R3 e0 hT'
        have kEnd : ∀ w9, Below wr.heap.size wr w9 → Below w2.heap.size w2 w9 := fun w9 hb => bthen hbw hb hbw.size
        obtain rfl | rfl | hge : t = 0 ∨ t = 1 ∨ 2 ≤ t := by omega
        · rw [Nat.add_zero] at c1
          by_cases hn : 0 = n1
          · subst hn
            have s1 : sepB 0 = ⟨#[]⟩ := rfl
            have s2 : parB 0 0 = ⟨#[40]⟩ := by unfold parB; rw [if_pos rfl]
            have hst := HST.out
            rw [s1, s2, ba_nil] at hst
            have HST2 := Lib.hid hst
            clear hst HST s1 s2
            go_wp2_with fail
            apply Calls.mono
            · with_reducible exact kD _ htr
            rintro _ w3 ⟨rfl, hb_w3⟩
            go_wp2
            go_roundg (gk - 1)
            case measure => omega
            case rel => exact ⟨0 + 1, by omega, by omega, by go_num, by rw [HT'.out, HST2.out], kEnd _ hb_w3⟩
          · have hn' : ¬ (((0 : Nat) : Int) = (n1 : Int)) := by omega
            have s1 : sepB 0 = ⟨#[]⟩ := rfl
            have s2 : parB n1 0 = ⟨#[]⟩ := by unfold parB; rw [if_neg hn]
            have hst := HST.out
            rw [s1, s2, ba_nil, ba_nil] at hst
            have HST2 := Lib.hid hst
            clear hst HST s1 s2
            go_wp2_with fail
            apply Calls.mono
            · with_reducible exact kD _ htr
            rintro _ w3 ⟨rfl, hb_w3⟩
            go_wp2
            go_roundg (gk - 1)
            case measure => omega
            case rel => exact ⟨0 + 1, by omega, by omega, by go_num, by rw [HT'.out, HST2.out], kEnd _ hb_w3⟩
        · by_cases hn : 1 = n1
          · subst hn
            have s1 : sepB 1 = ⟨#[59, 32]⟩ := rfl
            have s2 : parB 1 1 = ⟨#[40]⟩ := by unfold parB; rw [if_pos rfl]
            have hst := HST.out
            rw [s1, s2] at hst
            have HST2 := Lib.hid hst
            clear hst HST s1 s2
            go_wp2_with fail
            apply Calls.mono
            · with_reducible exact kD _ htr
            rintro _ w3 ⟨rfl, hb_w3⟩
            go_wp2
            go_roundg (gk - 1)
            case measure => omega
            case rel => exact ⟨1 + 1, by omega, by omega, by go_num, by rw [HT'.out, HST2.out], kEnd _ hb_w3⟩
          · have hn' : ¬ (((1 : Nat) : Int) = (n1 : Int)) := by omega
            have s1 : sepB 1 = ⟨#[59, 32]⟩ := rfl
            have s2 : parB n1 1 = ⟨#[]⟩ := by unfold parB; rw [if_neg hn]
            have hst := HST.out
            rw [s1, s2, ba_nil] at hst
            have HST2 := Lib.hid hst
            clear hst HST s1 s2
            go_wp2_with fail
            apply Calls.mono
            · with_reducible exact kD _ htr
            rintro _ w3 ⟨rfl, hb_w3⟩
            go_wp2
            go_roundg (gk - 1)
            case measure => omega
            case rel => exact ⟨1 + 1, by omega, by omega, by go_num, by rw [HT'.out, HST2.out], kEnd _ hb_w3⟩
        · have e1 : ¬ ((t : Int) = 0) := by omega
          have e2 : ¬ ((t : Int) = 1) := by omega
          by_cases hn : t = n1
          · subst hn
            have s1 : sepB t = ⟨#[44, 32]⟩ := by unfold sepB; rw [if_neg (by omega), if_neg (by omega)]
            have s2 : parB t t = ⟨#[40]⟩ := by unfold parB; rw [if_pos rfl]
            have hst := HST.out
            rw [s1, s2] at hst
            have HST2 := Lib.hid hst
            clear hst HST s1 s2
            go_wp2_with fail
            apply Calls.mono
            · with_reducible exact kD _ htr
            rintro _ w3 ⟨rfl, hb_w3⟩
            go_wp2
            go_roundg (gk - 1)
            case measure => omega
            case rel => exact ⟨t + 1, by omega, by omega, by go_num, by rw [HT'.out, HST2.out], kEnd _ hb_w3⟩
          · have hn' : ¬ (((t : Nat) : Int) = (n1 : Int)) := by omega
            have s1 : sepB t = ⟨#[44, 32]⟩ := by unfold sepB; rw [if_neg (by omega), if_neg (by omega)]
            have s2 : parB n1 t = ⟨#[]⟩ := by unfold parB; rw [if_neg hn]
            have hst := HST.out
            rw [s1, s2, ba_nil] at hst
            have HST2 := Lib.hid hst
            clear hst HST s1 s2
            go_wp2_with fail
            apply Calls.mono
            · with_reducible exact kD _ htr
            rintro _ w3 ⟨rfl, hb_w3⟩
            go_wp2
            go_roundg (gk - 1)
            case measure => omega
            case rel => exact ⟨t + 1, by omega, by omega, by go_num, by rw [HT'.out, HST2.out], kEnd _ hb_w3⟩
      · obtain rfl : t = n := by omega
        generalize ptx n1 zs t = T at *
        clear e0
        go_wp2
        go_ret
        refine ⟨by first | rfl | (simp), ?_⟩
        repeat' (first | (with_reducible exact Below.refl _ _) | (with_reducible assumption) | (with_reducible refine Below.alloc ?_ ?_ _) | (with_reducible refine Below.drew ?_) | (with_reducible refine bdrewN ?_ _) | (with_reducible refine Below.setCell ?_ ?_ _) | (with_reducible refine bthen ?_ (by assumption) ?_) | go_size)
set_option maxHeartbeats 2000000 in
set_option maxRecDepth 100000 in
theorem periodTextS_any (v1 v2 : Value) (n1 n2 : Nat) (hs ls : List Int) (w : World) (h1 : Rs w 1 v1 n1 (ints hs)) (h2 : Rs w 1 v2 n2 (ints ls)) (b1 : n1 ≤ 1048576) (b2 : n2 ≤ 1048576) :
    Calls Tryd.prog 22 #[v1, v2] w (Ret w (.string (ptM hs ls))) := by
  have l1 : hs.length = n1 := by have := (rd_len h1.1).1; rw [ints_len] at this; omega
  have l2 : ls.length = n2 := by have := (rd_len h2.1).1; rw [ints_len] at this; omega
  obtain ⟨A1, k1, rfl, q1, q2, -, hr1⟩ := id h1.1
  obtain ⟨A2, k2, rfl, q3, q4, -, hr2⟩ := id h2.1
  have kA := fun w' (hb : Below w.heap.size w w') => l08Terms_any _ _ n1 n2 hs ls w' (h1.below hb (Nat.le_refl _)) (h2.below hb (Nat.le_refl _)) b1 b2 _ rfl
  cases hp : pdB hs ls
  · have e : ptM hs ls = ⟨#[]⟩ := by unfold ptM; rw [hp]; rfl
    rw [e]
    rw [hp] at kA
    clear h1 h2 l1 l2 e hp hr1 hr2
    go_enter Tryd.func22, Tryd.ntmps22
    go_wp2_with fail
    apply Calls.mono
    · with_reducible exact kA _ (Below.refl _ _)
    rintro _ w1 ⟨rfl, hb_w1⟩
    obtain ⟨hc_w1, hf_w1, hs_w1⟩ := bcell hb_w1
    try simp at hs_w1
    go_wp2
    go_ret
    refine ⟨by first | rfl | (simp), ?_⟩
    repeat' (first | (with_reducible exact Below.refl _ _) | (with_reducible assumption) | (with_reducible refine Below.alloc ?_ ?_ _) | (with_reducible refine Below.drew ?_) | (with_reducible refine bdrewN ?_ _) | (with_reducible refine Below.setCell ?_ ?_ _) | (with_reducible refine bthen ?_ (by assumption) ?_) | go_size)
  · have e : ptM hs ls = ptx n1 (hs ++ ls) (n1 + n2) ++ ⟨#[41, 93]⟩ := by unfold ptM; rw [hp, if_pos rfl, l1, l2]
    rw [e]
    rw [hp] at kA
    obtain ⟨p1, p2, p3, p4, p5, p6⟩ := pd_facts hp
    have hC : ∀ t ∈ hs ++ ls, -1000000000 ≤ t ∧ t ≤ 1000000000 := fun t ht => by
      rcases List.mem_append.1 ht with e | e
      · exact p4 t e
      · have := p2 t e; omega
    have hlen : (hs ++ ls).length = n1 + n2 := by rw [List.length_append, l1, l2]
    have hn60 : n1 + n2 ≤ 60 := by omega
    have hsz := fun t => ptx_size (n := n1) hC t
    have hget1 : ∀ t, t < n1 → (hs ++ ls)[t]? = hs[t]? := fun t ht => List.getElem?_append_left (by omega)
    have hget2 : ∀ t, n1 ≤ t → (hs ++ ls)[t]? = ls[t - n1]? := fun t ht => by rw [List.getElem?_append_right (by omega), l1]
    have R1 := Lib.hid hr1
    have R2 := Lib.hid hr2
    have HC := Lib.hid hC
    have HL := Lib.hid hlen
    have HS := Lib.hid hsz
    have HG1 := Lib.hid hget1
    have HG2 := Lib.hid hget2
    have L1 := Lib.hid l1
    have L2 := Lib.hid l2
    clear h1 h2 l1 l2 e hp p1 p2 p3 p4 p5 p6 hC hlen hsz hr1 hr2 hget1 hget2
    go_enter Tryd.func22, Tryd.ntmps22
    go_wp2_with fail
    apply Calls.mono
    · with_reducible exact kA _ (Below.refl _ _)
    rintro _ w1 ⟨rfl, hb_w1⟩
    obtain ⟨hc_w1, hf_w1, hs_w1⟩ := bcell hb_w1
    try simp at hs_w1
    clear kA hc_w1 hf_w1 hs_w1
    have q0 := hb_w1.size
    generalize hs ++ ls = zs at *
    have e0 : ptx n1 zs 0 = ⟨#[91]⟩ := rfl
    go_wp2_with fail
    go_loopg [5, 7] (n1 + n2) (fun k v i wr => PtR w1 n1 (n1 + n2) zs k v i wr)
    case atStart => exact ⟨0, by omega, by omega, rfl, by rw [e0], Below.refl _ _⟩
    case round =>
      obtain ⟨t, ht1, ht3, rfl, rfl, hbw⟩ := hrel
      have hsr := hbw.size
      have belr : Below w.heap.size w wr := bthen hb_w1 hbw hb_w1.size
      have hT := HS.out t
      by_cases htn : t < n1 + n2
      · obtain ⟨z, hz⟩ := get_ex (l := zs) (k := t) (by have := HL.out; omega)
        have htn' : (t : Int) < (n1 : Int) + (n2 : Int) := by omega
        obtain ⟨z1, z2⟩ := HC.out z (List.mem_of_getElem? hz)
        have kD := fun w => l01Dec_any z (by omega) (by omega) w
        have hst := ptx_step (n := n1) hz
        obtain ⟨D, eD, sD⟩ := decB_some z (by omega) (by omega)
        rw [eD] at kD hst
        generalize hT' : ptx n1 zs (t + 1) = T' at *
        generalize ptx n1 zs t = T at *
        have HST := Lib.hid hst
        have HT' := Lib.hid hT'
        clear hst eD e0 hT'
        have kEnd : ∀ w9, Below wr.heap.size wr w9 → Below w1.heap.size w1 w9 := fun w9 hb => bthen hbw hb hbw.size
        rcases Nat.lt_or_ge t n1 with hlt | hge1
        · have hz1 : hs[t]? = some z := (HG1.out t hlt).symm.trans hz
          rcases R1.out with h0 | ⟨g, o, rfl, hg, hcell⟩
          · omega
          have c1 : wr.cell? ⟨g, o + t, none⟩ = some (.int .i64 z) := (belr.cell (p := ⟨g, o + t, none⟩) hg).trans (hcell t _ (ints_get hz1))
          have hlt' : (t : Int) < (n1 : Int) := by omega
          have hn : ¬ t = n1 := by omega
          clear hz hz1 hcell R1 R2 HG1 HG2
          obtain rfl | rfl | hge : t = 0 ∨ t = 1 ∨ 2 ≤ t := by omega
          · rw [Nat.add_zero] at c1
            have s1 : sepB 0 = ⟨#[]⟩ := rfl
            have s2 : parB n1 0 = ⟨#[]⟩ := by unfold parB; rw [if_neg hn]
            have hst := HST.out
            rw [s1, s2, ba_nil, ba_nil] at hst
            have HST2 := Lib.hid hst
            clear hst HST s1 s2
            go_wp2_with fail
            apply Calls.mono
            · with_reducible exact kD _
            rintro _ w3 ⟨rfl, hb_w3⟩
            go_wp2
            go_roundg (gk - 1)
            case measure => omega
            case rel => exact ⟨0 + 1, by omega, by omega, by go_num, by rw [HT'.out, HST2.out], kEnd _ hb_w3⟩
          · have s1 : sepB 1 = ⟨#[59, 32]⟩ := rfl
            have s2 : parB n1 1 = ⟨#[]⟩ := by unfold parB; rw [if_neg hn]
            have hst := HST.out
            rw [s1, s2, ba_nil] at hst
            have HST2 := Lib.hid hst
            clear hst HST s1 s2
            go_wp2_with fail
            apply Calls.mono
            · with_reducible exact kD _
            rintro _ w3 ⟨rfl, hb_w3⟩
            go_wp2
            go_roundg (gk - 1)
            case measure => omega
            case rel => exact ⟨1 + 1, by omega, by omega, by go_num, by rw [HT'.out, HST2.out], kEnd _ hb_w3⟩
          · have e1 : ¬ ((t : Int) = 1) := by omega
            have e2 : (1 : Int) < (t : Int) := by omega
            have s1 : sepB t = ⟨#[44, 32]⟩ := by unfold sepB; rw [if_neg (by omega), if_neg (by omega)]
            have s2 : parB n1 t = ⟨#[]⟩ := by unfold parB; rw [if_neg hn]
            have hst := HST.out
            rw [s1, s2, ba_nil] at hst
            have HST2 := Lib.hid hst
            clear hst HST s1 s2
            go_wp2_with fail
            apply Calls.mono
            · with_reducible exact kD _
            rintro _ w3 ⟨rfl, hb_w3⟩
            go_wp2
            go_roundg (gk - 1)
            case measure => omega
            case rel => exact ⟨t + 1, by omega, by omega, by go_num, by rw [HT'.out, HST2.out], kEnd _ hb_w3⟩
        · have hz2 : ls[t - n1]? = some z := (HG2.out t hge1).symm.trans hz
          rcases R2.out with h0 | ⟨g, o, rfl, hg, hcell⟩
          · omega
          have c1 : wr.cell? ⟨g, o + (t - n1), none⟩ = some (.int .i64 z) := (belr.cell (p := ⟨g, o + (t - n1), none⟩) hg).trans (hcell (t - n1) _ (ints_get hz2))
          have hlt' : ¬ ((t : Int) < (n1 : Int)) := by omega
          clear hz hz2 hcell R1 R2 HG1 HG2
          have hn2' : (0 : Int) < (n2 : Int) := by omega
          obtain ⟨rfl, rfl⟩ | ⟨rfl, rfl⟩ | ⟨rfl, rfl⟩ | ⟨hge, rfl⟩ | ⟨hge, hlt⟩ : (t = 0 ∧ n1 = 0) ∨ (t = 1 ∧ n1 = 1) ∨ (t = 1 ∧ n1 = 0) ∨ (2 ≤ t ∧ n1 = t) ∨ (2 ≤ t ∧ n1 < t) := by omega
          · rw [Nat.sub_self, Nat.add_zero] at c1
            have s1 : sepB 0 = ⟨#[]⟩ := rfl
            have s2 : parB 0 0 = ⟨#[40]⟩ := by unfold parB; rw [if_pos rfl]
            have hst := HST.out
            rw [s1, s2, ba_nil] at hst
            have HST2 := Lib.hid hst
            clear hst HST s1 s2
            go_wp2_with fail
            apply Calls.mono
            · with_reducible exact kD _
            rintro _ w3 ⟨rfl, hb_w3⟩
            go_wp2
            go_roundg (gk - 1)
            case measure => omega
            case rel => exact ⟨0 + 1, by omega, by omega, by go_num, by rw [HT'.out, HST2.out], kEnd _ hb_w3⟩
          · rw [Nat.sub_self, Nat.add_zero] at c1
            have s1 : sepB 1 = ⟨#[59, 32]⟩ := rfl
            have s2 : parB 1 1 = ⟨#[40]⟩ := by unfold parB; rw [if_pos rfl]
            have hst := HST.out
            rw [s1, s2] at hst
            have HST2 := Lib.hid hst
            clear hst HST s1 s2
            go_wp2_with fail
            apply Calls.mono
            · with_reducible exact kD _
            rintro _ w3 ⟨rfl, hb_w3⟩
            go_wp2
            go_roundg (gk - 1)
            case measure => omega
            case rel => exact ⟨1 + 1, by omega, by omega, by go_num, by rw [HT'.out, HST2.out], kEnd _ hb_w3⟩
          · rw [Nat.sub_zero] at c1
            have s1 : sepB 1 = ⟨#[59, 32]⟩ := rfl
            have s2 : parB 0 1 = ⟨#[]⟩ := by unfold parB; rw [if_neg (by omega)]
            have hst := HST.out
            rw [s1, s2, ba_nil] at hst
            have HST2 := Lib.hid hst
            clear hst HST s1 s2
            go_wp2_with fail
            apply Calls.mono
            · with_reducible exact kD _
            rintro _ w3 ⟨rfl, hb_w3⟩
            go_wp2
            go_roundg (gk - 1)
            case measure => omega
            case rel => exact ⟨1 + 1, by omega, by omega, by go_num, by rw [HT'.out, HST2.out], kEnd _ hb_w3⟩
          · rw [Nat.sub_self, Nat.add_zero] at c1
            have e1 : ¬ ((n1 : Int) = 1) := by omega
            have e2 : (1 : Int) < (n1 : Int) := by omega
            have s1 : sepB n1 = ⟨#[44, 32]⟩ := by unfold sepB; rw [if_neg (by omega), if_neg (by omega)]
            have s2 : parB n1 n1 = ⟨#[40]⟩ := by unfold parB; rw [if_pos rfl]
            have hst := HST.out
            rw [s1, s2] at hst
            have HST2 := Lib.hid hst
            clear hst HST s1 s2
            go_wp2_with fail
            apply Calls.mono
            · with_reducible exact kD _
            rintro _ w3 ⟨rfl, hb_w3⟩
            go_wp2
            go_roundg (gk - 1)
            case measure => omega
            case rel => exact ⟨n1 + 1, by omega, by omega, by go_num, by rw [HT'.out, HST2.out], kEnd _ hb_w3⟩
          · have e1 : ¬ ((t : Int) = 1) := by omega
            have e2 : (1 : Int) < (t : Int) := by omega
            have e3 : ¬ ((t : Int) = (n1 : Int)) := by omega
            have e4 : (t : Int) - (n1 : Int) = ((t - n1 : Nat) : Int) := by omega
            have e5 : ((t - n1 : Nat) : Int) < (n2 : Int) := by omega
            generalize hj : t - n1 = j at *
            clear hlt'
            have s1 : sepB t = ⟨#[44, 32]⟩ := by unfold sepB; rw [if_neg (by omega), if_neg (by omega)]
            have s2 : parB n1 t = ⟨#[]⟩ := by unfold parB; rw [if_neg (by omega)]
            have hst := HST.out
            rw [s1, s2, ba_nil] at hst
            have HST2 := Lib.hid hst
            clear hst HST s1 s2
            go_wp2_with fail
            apply Calls.mono
            · with_reducible exact kD _
            rintro _ w3 ⟨rfl, hb_w3⟩
            go_wp2
            go_roundg (gk - 1)
            case measure => omega
            case rel => exact ⟨t + 1, by omega, by omega, by go_num, by rw [HT'.out, HST2.out], kEnd _ hb_w3⟩
      · obtain rfl : t = n1 + n2 := by omega
        generalize ptx n1 zs (n1 + n2) = T at *
        clear e0
        go_wp2
        go_ret
        refine ⟨by first | rfl | (simp), ?_⟩
        repeat' (first | (with_reducible exact Below.refl _ _) | (with_reducible assumption) | (with_reducible refine Below.alloc ?_ ?_ _) | (with_reducible refine Below.drew ?_) | (with_reducible refine bdrewN ?_ _) | (with_reducible refine Below.setCell ?_ ?_ _) | (with_reducible refine bthen ?_ (by assumption) ?_) | go_size)
end Go.Proofs.YtibbokllongomaaDoor
