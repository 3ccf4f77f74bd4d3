/- What the listed package-level variables give a walk. -/
import Derived.Test.YtdkjiafdfenbkaaDoorRows
import Derived.Test.YtdkjiafdfenbkaaDoorFmt
import Derived.LaidMore
import Derived.Stop.Joined
import Derived.Stop.LaidErr
namespace Go.Proofs.YtdkjiafdfenbkaaDoor
open Go Go.RowKit
theorem tab_of_laid {W : World} (h : laidMetH Tryd.prog Rows.fnExactFormatSampleRow.laid W) : Tab W := by
  have h' : laidMet Tryd.prog [("math/bits.deBruijn32tab", Rows.laid_math_bits_deBruijn32tab), ("math/bits.deBruijn64tab", Rows.laid_math_bits_deBruijn64tab), ("internal/strconv.uint64pow10", Rows.laid_internal_strconv_uint64pow10)] W := by
    have := h
    unfold Rows.fnExactFormatSampleRow at this
    rw [MakeChecks.laidMetH_plain _ _ _ (by kernel_rfl)] at this
    exact this
  exact Lib.tabIs_of_head (g := 4) (t := 218) (e := 173) (n := 20) (by kernel_rfl) (by kernel_rfl) Tryd.underlying218 Tryd.underlying173 (by kernel_rfl) (by kernel_rfl) (show laidMet _ ((_, Lib.tabData .u64 Lib.pow10Tab) :: _) _ from h'.tail.tail)
theorem door_met_tab (os : Os) (args : Array Value) : laidMetH Tryd.prog Rows.fnExactFormatSampleRow.laid ((World.doorLaid Tryd.prog 400 os).forCall (fun _ _ => 0) ⟨#[], args, []⟩).memory :=
  laidMetH_of_parts3 (fuel := 8) (laidMet_of_run' 8 (by kernel_rfl) (by kernel_rfl)) (by kernel_rfl) (by kernel_rfl)
end Go.Proofs.YtdkjiafdfenbkaaDoor
