/-
  A path read from its text: plain facts. Both ways give the path whose text it is.
-/
import Derived.Test.YtlmmpeeacjbobaaGreatDoorNum
import Derived.Test.YtlmmpeeacjbobaaGreatDoorSp
import Derived.Test.YtlmmpeeacjbobaaGreatDoorTx
import Derived.Test.YtlmmpeeacjbobaaGreatDoorOk
namespace Go.Proofs.YtlmmpeeacjbobaaGreatDoor
open Go.Lib

def ltC (t : Nat) : UInt8 := if t % 2 = 0 then 82 else 76
/-- The words of runs, from a place on. -/
def wF : Nat → List Int → List (List UInt8)
  | _, [] => []
  | t, n :: r => if 0 < n then (ltC t :: itoa n) :: wF (t + 1) r else wF (t + 1) r
/-- The reference's reading, from a place on. -/
def sQ : Nat → List (List UInt8) → Option (List Int)
  | _, [] => some []
  | t, x :: r => if x.length < 2 then none else
    match rdM (x.drop 1) with
    | some n => if n = 0 ∨ x.head? ≠ some (ltC t) then none else (sQ (t + 1) r).map (n :: ·)
    | none => none
/-- The program's reading. -/
def iQ : List (List UInt8) → Option (List Int)
  | [] => some []
  | x :: r => if x.length < 2 then none else
    match rdM (x.drop 1) with
    | some n => (iQ r).map (n :: ·)
    | none => none
/-- Does the first part begin with L? -/
def isL (ws : List (List UInt8)) : Bool := match ws with | x :: _ => x.head? == some 76 | [] => false
def sW (ws : List (List UInt8)) : Option (List Int) := if isL ws then (sQ 1 ws).map (0 :: ·) else sQ 0 ws
def iW (ws : List (List UInt8)) : Option (List Int) := if isL ws then (iQ ws).map (0 :: ·) else iQ ws
def topL : List UInt8 := [116, 111, 112]
/-- What both packages give. -/
def rpS (l : List UInt8) : Option (List Int) := if l = topL then some [] else match sW (spL 32 l) with | some rs => if okR rs then some rs else none | none => none
def rpI (l : List UInt8) : Option (List Int) := if l = topL then some [] else match iW (spL 32 l) with | some rs => if (ptO rs).data.toList = l then some rs else none | none => none
theorem wF_append : ∀ (a b : List Int) (t : Nat), wF t (a ++ b) = wF t a ++ wF (t + a.length) b
  | [], b, t => by simp [wF]
  | n :: a, b, t => by
    have ih := wF_append a b (t + 1)
    rw [show t + 1 + a.length = t + (n :: a).length by rw [List.length_cons]; omega] at ih
    show (if 0 < n then (ltC t :: itoa n) :: wF (t + 1) (a ++ b) else wF (t + 1) (a ++ b)) = (if 0 < n then (ltC t :: itoa n) :: wF (t + 1) a else wF (t + 1) a) ++ _
    rw [ih]
    split <;> simp
theorem wdL_wF (rs : List Int) : ∀ t, t ≤ rs.length → (wdL rs t).map (·.data.toList) = wF 0 (rs.take t)
  | 0, _ => by simp [wdL, wF]
  | t + 1, h => by
    have ih := wdL_wF rs t (by omega)
    have hg : rs.getD t 0 = rs[t] := by rw [List.getD_eq_getElem?_getD, List.getElem?_eq_getElem (by omega)]; rfl
    rw [List.take_succ_eq_append_getElem (by omega), wF_append, ← ih, List.length_take, Nat.min_eq_left (by omega), Nat.zero_add]
    show List.map _ (if 0 < rs.getD t 0 then _ else _) = _
    rw [hg]
    show _ = _ ++ (if 0 < rs[t] then _ else _)
    by_cases h0 : 0 < rs[t]
    · rw [if_pos h0, if_pos h0, List.map_append]
      congr 1
    · rw [if_neg h0, if_neg h0]
      simp [show ∀ t, wF t [] = [] from fun _ => rfl]
theorem words_of (rs : List Int) : (wdL rs rs.length).map (·.data.toList) = wF 0 rs := by
  rw [wdL_wF rs rs.length (Nat.le_refl _), List.take_length]
theorem okR_el {rs : List Int} (h : okR rs = true) {t : Nat} {z : Int} (hz : rs[t]? = some z) : lowR rs.length t ≤ z ∧ z ≤ 1000000000 := by
  unfold okR at h
  rw [Bool.and_eq_true, decide_eq_true_eq, decide_eq_true_eq] at h
  obtain ⟨hlt, _⟩ := List.getElem?_eq_some_iff.1 hz
  have := h.2 t hlt
  rw [List.getD_eq_getElem?_getD, hz] at this
  simp only [Option.getD_some, inB, Bool.and_eq_true, decide_eq_true_eq] at this
  omega
theorem okR_up {rs : List Int} (h : okR rs = true) : ∀ z ∈ rs, z ≤ 1000000000 ∧ 0 ≤ z := by
  intro z hz
  obtain ⟨t, ht⟩ := List.mem_iff_getElem?.1 hz
  have := okR_el h ht
  have h2 : 0 ≤ lowR rs.length t := by unfold lowR; split <;> omega
  omega
theorem okR_tl {z : Int} {r : List Int} (h : okR (z :: r) = true) : ∀ x ∈ r, 1 ≤ x ∧ x ≤ 1000000000 := by
  intro x hx
  obtain ⟨t, ht⟩ := List.mem_iff_getElem?.1 hx
  have := okR_el h (t := t + 1) (z := x) (by simpa using ht)
  have h2 : lowR (z :: r).length (t + 1) = 1 := by unfold lowR; rw [if_neg (by omega)]
  omega
theorem sQ_words : ∀ (ws : List (List UInt8)) (t : Nat) (rs : List Int), sQ t ws = some rs → (∀ n ∈ rs, 0 ≤ n) → wF t rs = ws ∧ ∀ n ∈ rs, 1 ≤ n
  | [], t, rs, h, _ => by
    injection h with h
    subst h
    exact ⟨rfl, by simp⟩
  | x :: r, t, rs, h, h0 => by
    unfold sQ at h
    split at h
    · cases h
    · rename_i hx
      split at h
      · rename_i n hn
        split at h
        · cases h
        · rename_i hc
          cases hr : sQ (t + 1) r with
          | none => rw [hr] at h; cases h
          | some rs' =>
            rw [hr] at h
            injection h with h
            subst h
            obtain ⟨i1, i2⟩ := sQ_words r (t + 1) rs' hr (fun m hm => h0 m (List.mem_cons_of_mem _ hm))
            have hn0 := h0 n (by simp)
            have hn1 : n ≠ 0 := fun e => hc (.inl e)
            have hd : x.head? = some (ltC t) := by
              by_cases e : x.head? = some (ltC t)
              · exact e
              · exact absurd (.inr e) hc
            refine ⟨?_, fun m hm => ?_⟩
            · show (if 0 < n then _ else _) = _
              rw [if_pos (by omega), i1, (rd_some hn).1]
              cases x with
              | nil => simp at hd
              | cons a x =>
                simp only [List.head?_cons, Option.some.injEq] at hd
                rw [hd]
                rfl
            · rcases List.mem_cons.1 hm with rfl | hm
              · omega
              · exact i2 m hm
      · cases h
theorem wF_reads : ∀ (rs : List Int) (t : Nat), (∀ n ∈ rs, 1 ≤ n ∧ n ≤ 1000000000) → sQ t (wF t rs) = some rs ∧ iQ (wF t rs) = some rs
  | [], t, _ => ⟨rfl, rfl⟩
  | n :: r, t, h => by
    obtain ⟨n1, n2⟩ := h n (by simp)
    obtain ⟨i1, i2⟩ := wF_reads r (t + 1) (fun m hm => h m (List.mem_cons_of_mem _ hm))
    have e : wF t (n :: r) = (ltC t :: itoa n) :: wF (t + 1) r := by
      show (if 0 < n then _ else _) = _
      rw [if_pos (by omega)]
    have hl : ¬ (ltC t :: itoa n).length < 2 := by
      rw [List.length_cons]
      have := (rd_some (rd_itoa (n := n) (by omega) (by omega))).2.2.2.2.1
      rw [mag_itoa] at this
      unfold itoa
      rw [if_neg (by omega)]
      have e2 : n.toNat = n.natAbs := by omega
      rw [e2]; omega
    rw [e]
    have hr := rd_itoa (n := n) (by omega) (by omega)
    constructor
    · unfold sQ
      rw [if_neg hl]
      have hh : ¬ (n = 0 ∨ (ltC t :: itoa n).head? ≠ some (ltC t)) := fun x => by
        rcases x with x | x
        · omega
        · exact x rfl
      show (match rdM (itoa n) with
        | some n => if n = 0 ∨ (ltC t :: itoa _).head? ≠ some (ltC t) then none else (sQ (t + 1) (wF (t + 1) r)).map (n :: ·)
        | none => none) = _
      rw [hr]
      show (if n = 0 ∨ (ltC t :: itoa n).head? ≠ some (ltC t) then none else (sQ (t + 1) (wF (t + 1) r)).map (n :: ·)) = _
      rw [if_neg hh, i1]
      rfl
    · unfold iQ
      rw [if_neg hl]
      simp only [List.drop_one, List.tail_cons, hr]
      rw [i2]
      rfl
theorem iQ_len : ∀ (ws : List (List UInt8)) (rs : List Int), iQ ws = some rs → rs.length = ws.length
  | [], rs, h => by injection h with h; subst h; rfl
  | x :: r, rs, h => by
    unfold iQ at h
    split at h
    · cases h
    · split at h
      · cases hr : iQ r with
        | none => rw [hr] at h; cases h
        | some rs' =>
          rw [hr] at h
          injection h with h
          subst h
          simp [iQ_len r rs' hr]
      · cases h
theorem wF_len : ∀ (rs : List Int) (t : Nat), (wF t rs).length ≤ rs.length ∧ ((wF t rs).length = rs.length → ∀ n ∈ rs, 0 < n)
  | [], t => ⟨Nat.le_refl _, by simp⟩
  | n :: r, t => by
    obtain ⟨i1, i2⟩ := wF_len r (t + 1)
    by_cases h : 0 < n
    · have e : wF t (n :: r) = (ltC t :: itoa n) :: wF (t + 1) r := by
        show (if 0 < n then _ else _) = _
        rw [if_pos h]
      rw [e, List.length_cons, List.length_cons]
      refine ⟨by omega, fun x m hm => ?_⟩
      rcases List.mem_cons.1 hm with rfl | hm
      · exact h
      · exact i2 (by omega) m hm
    · have e : wF t (n :: r) = wF (t + 1) r := by
        show (if 0 < n then _ else _) = _
        rw [if_neg h]
      rw [e, List.length_cons]
      exact ⟨by omega, fun x => by omega⟩
theorem wF_no : ∀ (rs : List Int) (t : Nat), ∀ x ∈ wF t rs, (32 : UInt8) ∉ x
  | [], t => by simp [wF]
  | n :: r, t => by
    intro x hx
    have hw : x = ltC t :: itoa n ∨ x ∈ wF (t + 1) r := by
      revert hx
      show x ∈ (if 0 < n then _ else _) → _
      split
      · intro hx; exact List.mem_cons.1 hx
      · exact .inr
    rcases hw with rfl | hx
    · intro h
      rcases List.mem_cons.1 h with h | h
      · revert h; unfold ltC; split <;> decide
      · exact itoa_no (by decide) (by decide) n h
    · exact wF_no r (t + 1) x hx
theorem pt_list {rs : List Int} (hk : okR rs = true) (hne : wF 0 rs ≠ []) : (ptO rs).data.toList = join (wF 0 rs) [32] := by
  unfold ptO
  have hw := words_of rs
  rw [if_pos hk, if_neg (fun e => hne (by rw [← hw, e]; rfl))]
  unfold jnB
  rw [hw]
/-- Both ways are one. -/
theorem rp_spec {l : List UInt8} {rs : List Int} (_hl : l ≠ topL) (h : sW (spL 32 l) = some rs) (hk : okR rs = true) : iW (spL 32 l) = some rs ∧ (ptO rs).data.toList = l := by
  have hne := sp_ne 32 l
  have hj := join_sp 32 l
  generalize spL 32 l = ws at *
  unfold sW at h
  cases hL : isL ws
  · rw [hL] at h
    have h : sQ 0 ws = some rs := h
    obtain ⟨w1, w2⟩ := sQ_words ws 0 rs h (fun n hn => (okR_up hk n hn).2)
    obtain ⟨_, r2⟩ := wF_reads rs 0 (fun n hn => ⟨w2 n hn, (okR_up hk n hn).1⟩)
    rw [w1] at r2
    refine ⟨by unfold iW; rw [hL]; exact r2, ?_⟩
    rw [pt_list hk (by rw [w1]; exact hne), w1, hj]
  · rw [hL] at h
    cases hq : sQ 1 ws with
    | none => rw [hq] at h; cases h
    | some r =>
      rw [hq] at h
      injection h with h
      subst h
      have hb := okR_tl hk
      obtain ⟨w1, w2⟩ := sQ_words ws 1 r hq (fun n hn => by have := hb n hn; omega)
      obtain ⟨_, r2⟩ := wF_reads r 1 hb
      rw [w1] at r2
      have e : wF 0 (0 :: r) = wF 1 r := by
        show (if (0 : Int) < 0 then _ else _) = _
        rw [if_neg (by decide)]
      refine ⟨by unfold iW; rw [hL, r2]; rfl, ?_⟩
      rw [pt_list hk (by rw [e, w1]; exact hne), e, w1, hj]
theorem rp_prog {l : List UInt8} {rs : List Int} (hl : l ≠ topL) (h : iW (spL 32 l) = some rs) (ht : (ptO rs).data.toList = l) : sW (spL 32 l) = some rs ∧ okR rs = true := by
  have hk : okR rs = true := by
    cases e : okR rs
    · exfalso
      have : ptO rs = ⟨#[]⟩ := by unfold ptO; rw [e]; rfl
      rw [this] at ht
      have ht : [] = l := ht
      subst ht
      have : iW (spL 32 []) = none := by decide
      rw [this] at h; cases h
    · rfl
  have hw0 : wF 0 rs ≠ [] := by
    intro e
    apply hl
    rw [← ht]
    unfold ptO
    rw [if_pos hk, if_pos (by have := words_of rs; rw [e, List.map_eq_nil_iff] at this; exact this)]
    rfl
  have hsp : spL 32 l = wF 0 rs := by
    rw [← ht, pt_list hk hw0, sp_join 32 _ hw0 (wF_no rs 0)]
  rw [hsp] at h ⊢
  unfold iW at h
  cases hL : isL (wF 0 rs)
  · rw [hL] at h
    have h : iQ (wF 0 rs) = some rs := h
    have hlen := (iQ_len _ _ h).symm
    have hp := (wF_len rs 0).2 hlen
    obtain ⟨r1, _⟩ := wF_reads rs 0 (fun n hn => ⟨hp n hn, (okR_up hk n hn).1⟩)
    exact ⟨by unfold sW; rw [hL]; exact r1, hk⟩
  · rw [hL] at h
    cases hq : iQ (wF 0 rs) with
    | none => rw [hq] at h; cases h
    | some r =>
      rw [hq] at h
      injection h with h
      subst h
      have e : wF 0 (0 :: r) = wF 1 r := by
        show (if (0 : Int) < 0 then _ else _) = _
        rw [if_neg (by decide)]
      obtain ⟨r1, _⟩ := wF_reads r 1 (okR_tl hk)
      refine ⟨?_, hk⟩
      unfold sW
      rw [hL, e, r1]
      rfl
theorem rp_same (l : List UInt8) : rpI l = rpS l := by
  unfold rpI rpS
  by_cases hl : l = topL
  · rw [if_pos hl, if_pos hl]
  · rw [if_neg hl, if_neg hl]
    cases hs : sW (spL 32 l) with
    | some rs =>
      simp only
      cases hk : okR rs
      · simp only [Bool.false_eq_true, if_false]
        cases hi : iW (spL 32 l) with
        | none => rfl
        | some rs' =>
          simp only
          by_cases ht : (ptO rs').data.toList = l
          · obtain ⟨a, b⟩ := rp_prog hl hi ht
            rw [hs] at a
            injection a with a
            rw [← a, hk] at b
            cases b
          · rw [if_neg ht]
      · obtain ⟨a, b⟩ := rp_spec hl hs hk
        rw [a]
        simp only
        rw [if_pos b]
        rfl
    | none =>
      simp only
      cases hi : iW (spL 32 l) with
      | none => rfl
      | some rs' =>
        simp only
        by_cases ht : (ptO rs').data.toList = l
        · obtain ⟨a, b⟩ := rp_prog hl hi ht
          rw [hs] at a; cases a
        · rw [if_neg ht]
end Go.Proofs.YtlmmpeeacjbobaaGreatDoor
