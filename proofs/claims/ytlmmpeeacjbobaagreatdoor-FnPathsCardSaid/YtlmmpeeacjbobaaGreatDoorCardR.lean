/-
  What the tied cards of the readers share: the library's variables, out of the row's condition and the world's shape.
-/
import Derived.Test.YtlmmpeeacjbobaaGreatDoorCard
import Derived.Test.YtlmmpeeacjbobaaGreatDoorRd
import Derived.HandedShaped
import Derived.Shelf.Vars
import Derived.Lay
namespace Go.Proofs.YtlmmpeeacjbobaaGreatDoor
open Go.ChangeShapes Go.WideShapes Go.ChangeAt Go.RowKit Go.Joins

theorem Tryz.gRange : Tryz.prog.globalNamed "strconv.ErrRange" = some 3 := by kernel_rfl
theorem Tryz.gRangeT : (Tryz.prog.globals[3]?).map (·.type) = some 75 := by kernel_rfl
theorem Tryz.gSyntax : Tryz.prog.globalNamed "strconv.ErrSyntax" = some 2 := by kernel_rfl
theorem Tryz.gSyntaxT : (Tryz.prog.globals[2]?).map (·.type) = some 75 := by kernel_rfl
theorem starE : "*" ++ "errors.errorString" = "*errors.errorString" := by decide
theorem Tryz.rowE (u : TypeId) (h : Tryz.prog.typeName? 3 u = some "*errors.errorString") : u = 131 :=
  typeName_ptr_named (nm := "errors.errorString") (by rw [starE]; kernel_rfl) (by kernel_rfl) (by decide) u (by rw [starE]; exact h)
theorem Tryz.cellsE : Tryz.prog.cellsOf 133 = 1 := by kernel_rfl
theorem Tryz.cellsStr : Tryz.prog.cellsOf 9 = 1 := by kernel_rfl
theorem rw_of_laid {W : World} {r : List (String × DataW Unit)} (ht : Tb W)
    (h : laidMet Tryz.prog (("strconv.ErrRange", Rows.laid_strconv_ErrRange) :: ("strconv.ErrSyntax", Rows.laid_strconv_ErrSyntax) :: r) W) (hs : W.ShapedOpen Tryz.prog) : Rw W := by
  obtain ⟨m, hm⟩ := Go.Proofs.cell_of_shapedOpen_int (P := Tryz.prog) (g := 1) (t := 3) (zero := #[.int .i64 0]) hs (of_decide_eq_true (by kernel_rfl)) (by kernel_rfl) rfl (by kernel_rfl) (by kernel_rfl) Tryz.underlying3
  obtain ⟨a0, s0, hv0, -, -, -⟩ := laid_sentinel h Tryz.gRange Tryz.gRangeT Tryz.underlying75 Tryz.rowE Tryz.underlying131 Tryz.underlying133 rfl rfl Tryz.underlying9 Tryz.cellsE Tryz.cellsStr
  obtain ⟨a1, s1, hv1, -, -, -⟩ := laid_sentinel h.tail Tryz.gSyntax Tryz.gSyntaxT Tryz.underlying75 Tryz.rowE Tryz.underlying131 Tryz.underlying133 rfl rfl Tryz.underlying9 Tryz.cellsE Tryz.cellsStr
  refine ⟨ht, ⟨m, hm⟩, ⟨_, by have h0 := World.var?_cell Tryz.gSyntax hv1 0; simpa using h0, .inr ⟨_, _, rfl⟩⟩, ⟨_, by have h0 := World.var?_cell Tryz.gRange hv0 0; simpa using h0, .inr ⟨_, _, rfl⟩⟩⟩
/-- The wrap with both: what the row lists, and the world's shape. -/
theorem wrap_both {H : Type} {enc : TypeId × Value → H} {a : Assume} {C : Checked} {os : Os} {f : FuncId} {fn : Func} {s : ChangeSpec} {conds : List PathCond} {apart fresh handsOn again : Bool} {X : World → Array Value → Prop}
    (hX : ∀ (u v : World) (ar : Array Value), u.heap = v.heap → X u ar → X v ar)
    (hown : ownKnob C.prog.godebug = none) (hstart : os.Started) (hinit : C.prog.inits.idxOf? f = none) (hfn : C.prog.funcs[f]? = some fn)
    (hwit : ∃ (u : World) (tape : Tape) (i : Input), u.os = os ∧ (u.forCall tape i).Shaped C.prog ∧ i.vars = [] ∧ Input.okWide C.prog (u.forCall tape i) .any u.heap.size f i ∧
      ((s.pre enc C.prog fn conds apart (u.forCall tape i).memory i.args ∧ X (u.forCall tape i).memory i.args) ∧ sizedMet enc C.prog fn (OpenSpec.ofChange s) apart (u.forCall tape i).memory i.args) ∧ a.holds C.prog (lone (Frame.enter C.prog f i.args .normal) [] (u.forCall tape i)))
    (hmain : ∀ (W : World) (base : Nat) (args : Array Value) (ds gs : List (DataW H)) (before : List MemPlace),
      (∀ (j : Nat) t v, fn.params[j]? = some t → args[j]? = some v → Value.okWide C.prog W .any base t v) →
      DataW.Whole enc C.prog fn.params.toList s.vars apart W args.toList ds gs before →
      conds.all (PathCond.test C.prog ⟨fn.params.toList, ds, s.plain.varTypes C.prog, gs⟩) = true →
      X W args → W.ShapedOpen C.prog →
      Calls C.prog f args W fun e W' => ∃ v, e = .returned v ∧ s.post enc C.prog fn apart fresh handsOn again W args v W') :
    ReturnsInHanded a C os f .any (fun w args => (s.pre enc C.prog fn conds apart w args ∧ X w args) ∧ sizedMet enc C.prog fn (OpenSpec.ofChange s) apart w args) (s.post enc C.prog fn apart fresh handsOn again) := by
  refine returnsInHanded_of_calls hown hstart hinit hwit ?_
  intro u tape i _ hsh _ hok hpre _
  obtain ⟨_, _, _, fn2, h2, _, _, _, _, hval⟩ := hok
  obtain rfl : fn2 = fn := Option.some.inj (h2.symm.trans hfn)
  obtain ⟨⟨⟨ds, gs, before, hw, hc⟩, hx⟩, _⟩ := hpre
  refine (hmain (u.forCall tape i) u.heap.size i.args ds gs before hval (DataW.Whole.of_heap (w' := u.forCall tape i) (by rfl) hw) hc (hX _ _ _ (by rfl) hx) hsh).mono fun e W' ⟨v, he, hp⟩ => ?_
  subst he
  exact ChangeSpec.post_blind hp
end Go.Proofs.YtlmmpeeacjbobaaGreatDoor
