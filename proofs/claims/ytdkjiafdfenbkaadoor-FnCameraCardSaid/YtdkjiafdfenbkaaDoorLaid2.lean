/- What the listed package-level variables give a walk: the table, the two sentinels. -/
import Derived.Test.YtdkjiafdfenbkaaDoorLaid
import Derived.Test.YtdkjiafdfenbkaaDoorParseInt
import Derived.LaidLaws
namespace Go.Proofs.YtdkjiafdfenbkaaDoor
open Go Go.RowKit
theorem errRow (u : TypeId) (h : Tryd.prog.typeName? 3 u = some "*errors.errorString") : u = 222 :=
  have star : "*" ++ "errors.errorString" = "*errors.errorString" := by decide
  typeName_ptr_named (nm := "errors.errorString") (by rw [star]; kernel_rfl) (by kernel_rfl) (by decide) u (by rw [star]; exact h)
theorem errCells : Tryd.prog.cellsOf 224 = 1 := by kernel_rfl
theorem strCells : Tryd.prog.cellsOf 9 = 1 := by kernel_rfl
theorem tabs_of_laid {W : World} (h : laidMetH Tryd.prog Rows.fnExactParseCameraRow.laid W) : Tabs W := by
  have h' : laidMet Tryd.prog [("math/bits.deBruijn32tab", Rows.laid_math_bits_deBruijn32tab), ("math/bits.deBruijn64tab", Rows.laid_math_bits_deBruijn64tab), ("internal/strconv.uint64pow10", Rows.laid_internal_strconv_uint64pow10), ("strconv.ErrRange", Rows.laid_strconv_ErrRange), ("strconv.ErrSyntax", Rows.laid_strconv_ErrSyntax)] W := by
    have := h
    unfold Rows.fnExactParseCameraRow at this
    rw [MakeChecks.laidMetH_plain _ _ _ (by kernel_rfl)] at this
    exact this
  refine ⟨Lib.tabIs_of_head (g := 4) (t := 218) (e := 173) (n := 20) (by kernel_rfl) (by kernel_rfl) Tryd.underlying218 Tryd.underlying173 (by kernel_rfl) (by kernel_rfl) (show laidMet _ ((_, Lib.tabData .u64 Lib.pow10Tab) :: _) _ from h'.tail.tail), ?_, ?_⟩
  · obtain ⟨a, s, hv, _, _, _⟩ := laid_sentinel h'.tail.tail.tail.tail (show Tryd.prog.globalNamed "strconv.ErrSyntax" = some 2 by kernel_rfl) (by kernel_rfl : (Tryd.prog.globals[2]?).map (·.type) = some 91) Tryd.underlying91 errRow Tryd.underlying222 Tryd.underlying224 rfl rfl Tryd.underlying9 errCells strCells
    exact ⟨_, _, hv⟩
  · obtain ⟨a, s, hv, _, _, _⟩ := laid_sentinel h'.tail.tail.tail (show Tryd.prog.globalNamed "strconv.ErrRange" = some 3 by kernel_rfl) (by kernel_rfl : (Tryd.prog.globals[3]?).map (·.type) = some 91) Tryd.underlying91 errRow Tryd.underlying222 Tryd.underlying224 rfl rfl Tryd.underlying9 errCells strCells
    exact ⟨_, _, hv⟩
theorem door_met_tabs (os : Os) (args : Array Value) : laidMetH Tryd.prog Rows.fnExactParseCameraRow.laid ((World.doorLaid Tryd.prog 400 os).forCall (fun _ _ => 0) ⟨#[], args, []⟩).memory :=
  laidMetH_of_parts3 (fuel := 8) (laidMet_of_run' 8 (by kernel_rfl) (by kernel_rfl)) (by kernel_rfl) (by kernel_rfl)
end Go.Proofs.YtdkjiafdfenbkaaDoor
