/-
  Rows of texts, and an append to one.
-/
import Derived.Test.YtlmmpeeacjbobaaDoorRow
import Derived.Maps.AppendAt
namespace Go.Proofs.YtlmmpeeacjbobaaDoor
open Go.RowKit

theorem Tryd.infoS : (Tryd.prog.info? 9).map (fun i => (i.zero, i.size, i.bytes)) = some (some (.string ⟨#[]⟩), 1, 16) := by kernel_rfl
def strs (xs : List ByteArray) : List Value := xs.map .string
theorem strs_len (xs : List ByteArray) : (strs xs).length = xs.length := by simp [strs]
theorem Tryd.infoS' : ∃ i, Tryd.prog.info? 9 = some i ∧ i.zero = some (.string ⟨#[]⟩) ∧ i.size = 1 ∧ i.bytes = 16 := info_parts Tryd.infoS
theorem strs_snoc (xs : List ByteArray) (y : ByteArray) : strs (xs ++ [y]) = strs xs ++ [.string y] := by simp [strs]
/-- append(s, y) of one text: s is the call's own. -/
theorem wp_appS {w : World} {ops : Array Oper} {rest : List Oper} {o : Oper} {a : Act} {Q : Exit → Act → World → Prop} (hgd : o.guard = none) (s x : Operand)
    (ho : o.op = .call { callee := .builtin .append, args := #[s, x], argTypes := #[27, 27] })
    (base : Nat) (v : Value) (n : Nat) (xs : List ByteArray) (y : ByteArray) (H c : Nat) (hs : a.eval s = v) (hown : w.ownsRow base 9 1 v n (strs xs))
    (hx : a.eval x = .slice (some ⟨H, 0, none⟩) 1 c) (hcell : w.cell? ⟨H, 0, none⟩ = some (.string y)) (hb : (n + 1) * 16 ≤ 140737488355328) (hbase : base ≤ w.heap.size)
    (h : ∀ v' w', w'.ownsRow base 9 1 v' (n + 1) (strs (xs ++ [y])) → w.grownBy w' v.ownBlock → (v'.ownBlock = v.ownBlock ∨ v'.ownBlock = some w.heap.size) → wpList Tryd.prog ops Q rest (a.put o.dst v') w') :
    wpList Tryd.prog ops Q (o :: rest) a w := by
  obtain ⟨i, hi, hz, hsz, hby⟩ := Tryd.infoS'
  refine wpList_append_own_at w hgd s x 27 ho base 9 i _ 1 16 Tryd.underlying27 hi hz hsz hby rfl (by decide) v n (strs xs) hs hown ⟨H, 0, none⟩ 1 c [.string y] hx rfl (fun j u hu => ?_) (by simp [Value.oneCell']) (by simp only [maxLen]; omega) hb hbase ?_
  · have hj : j = 0 := by
      rcases Nat.lt_or_ge j 1 with g | g
      · omega
      · rw [List.getElem?_eq_none (by simpa using g)] at hu; cases hu
    subst hj
    simp at hu
    subst hu
    exact hcell
  · intro v' w' h1 h2 h3 h4
    rw [strs_snoc] at h
    exact h v' w' h1 h2 h4
/-- Words that stand in a block. -/
def WrdAt (w : World) (g o : Nat) (ws : List ByteArray) : Prop := g < w.heap.size ∧ ∀ i x, ws[i]? = some x → w.cell? ⟨g, o + i, none⟩ = some (.string x)
theorem WrdAt.below {w w' : World} {g o : Nat} {ws : List ByteArray} (h : WrdAt w g o ws) (hb : Below w.heap.size w w') : WrdAt w' g o ws :=
  ⟨Nat.lt_of_lt_of_le h.1 hb.size, fun i x hx => (hb.cell (p := ⟨g, o + i, none⟩) h.1).trans (h.2 i x hx)⟩
theorem WrdAt.alloc {w : World} {g o : Nat} {ws : List ByteArray} (h : WrdAt w g o ws) (ob : Obj) : WrdAt (w.alloc ob) g o ws := h.below ((Below.refl _ _).alloc (Nat.le_refl _) _)
theorem WrdAt.grown {w w' : World} {g o : Nat} {ws : List ByteArray} {row : Option Nat} (h : WrdAt w g o ws) (hg : w.grownBy w' row) (hr : some g ≠ row) : WrdAt w' g o ws :=
  ⟨Nat.lt_of_lt_of_le h.1 hg.size, fun i x hx => hg.cell (h.2 i x hx) hr⟩
theorem WrdAt.of_own {w : World} {base n : Nat} {v : Value} {ws : List ByteArray} (h : w.ownsRow base 9 1 v n (strs ws)) (h1 : 1 ≤ ws.length) : ∃ g o c, v = .slice (some ⟨g, o, none⟩) n c ∧ WrdAt w g o ws ∧ base ≤ g ∧ n = ws.length ∧ n ≤ c ∧ c ≤ 9223372036854775807 := by
  have hl := (rd_len (Rd.of_own h)).1
  rw [strs_len, Nat.mul_one] at hl
  obtain ⟨A, c, rfl, hn, hc, _, hr⟩ := Rd.of_own h
  rcases hr with h0 | ⟨g, o, rfl, hg, hcell⟩
  · omega
  · exact ⟨g, o, c, rfl, ⟨hg, fun i x hx => hcell i _ (by simp [strs, hx])⟩, (h.lt g rfl).1, hl.symm, hn, hc⟩
end Go.Proofs.YtlmmpeeacjbobaaDoor
