/-
  What the tied cards share: the listed table of the powers of ten, out of the row's condition.
-/
import Derived.Test.YtlmmpeeacjbobaaGreatDoorDec
import Derived.Test.YtlmmpeeacjbobaaGreatDoorLaw
import Derived.Test.YtlmmpeeacjbobaaGreatDoorTie
import Derived.Test.YtlmmpeeacjbobaaGreatDoorCards
import Derived.LaidMore
import Derived.Stop.Joined
import Derived.Stop.LaidErr
import Derived.SevenTiedAt
namespace Go.Proofs.YtlmmpeeacjbobaaGreatDoor
open Go.ChangeShapes Go.WideShapes Go.ChangeAt Go.RowKit Go.Joins

theorem Tryz.gTab : Tryz.prog.globalNamed "internal/strconv.uint64pow10" = some 0 := by kernel_rfl
theorem Tryz.gTabT : (Tryz.prog.globals[0]?).map (·.type) = some 113 := by kernel_rfl
theorem tab_eq : (Rows.laid_internal_strconv_uint64pow10 : DataW Unit) = Lib.tabData .u64 Lib.pow10Tab := by kernel_rfl
/-- The table is the third that the row lists. -/
theorem tb_of_laid {W : World} {l : List (String × DataW Unit)} (h : laidMetH Tryz.prog l W) (hp : (l.all fun x => x.2.handleName?.isNone) = true)
    (he : l = ("math/bits.deBruijn32tab", Rows.laid_math_bits_deBruijn32tab) :: ("math/bits.deBruijn64tab", Rows.laid_math_bits_deBruijn64tab) :: ("internal/strconv.uint64pow10", Lib.tabData .u64 Lib.pow10Tab) :: l.drop 3) : Tb W := by
  rw [MakeChecks.laidMetH_plain _ _ _ hp, he] at h
  exact Lib.tabIs_of_head Tryz.gTab Tryz.gTabT Tryz.underlying113 Tryz.underlying66 (by kernel_rfl) (by kernel_rfl) h.tail.tail
end Go.Proofs.YtlmmpeeacjbobaaGreatDoor
