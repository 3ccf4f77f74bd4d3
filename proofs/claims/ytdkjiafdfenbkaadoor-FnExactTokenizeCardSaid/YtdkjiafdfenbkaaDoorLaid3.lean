/- What the listed package-level variable errors.errorType gives a walk. -/
import Derived.Test.YtdkjiafdfenbkaaDoorRows
import Derived.Test.YtdkjiafdfenbkaaDoorAs
import Derived.LaidMore
import Derived.LaidLaws
import Derived.LaidHandle
import Derived.Stop.Joined
namespace Go.Proofs.YtdkjiafdfenbkaaDoor
open Go Go.RowKit
theorem et_global : Tryd.prog.globalNamed "errors.errorType" = some 0 := by kernel_rfl
theorem et_rtype : (Tryd.prog.cutTypes.find? (·.1 == "internal/reflectlite.rtype")).map (·.2) = some 178 := by kernel_rfl
theorem et_row : ((List.range 254).filter fun t => Tryd.prog.rowNamed t [101, 114, 114, 111, 114]) = [91] := by kernel_rfl
theorem et_size : Tryd.prog.types.size = 254 := by kernel_rfl
theorem handle_of_laid {W : World} (h : laidMetH Tryd.prog Rows.fnExactTokenizeRow.laid W) : HandleE W := by
  have h' : laidMet Tryd.prog [] W ∧ handlesMet Tryd.prog Rows.fnExactTokenizeRow.laid W := h
  obtain ⟨name, u, ty, e1, e2, e3, e4, e5⟩ := h'.2 _ (List.mem_singleton.2 rfl)
  have en : name = [101, 114, 114, 111, 114] := (Option.some.inj e1).symm
  subst en
  obtain rfl := Option.some.inj (et_rtype.symm.trans e2)
  have hm : ty ∈ (List.range 254).filter fun t => Tryd.prog.rowNamed t [101, 114, 114, 111, 114] := List.mem_filter.2 ⟨List.mem_range.2 (by rw [← et_size]; exact e3), e4⟩
  rw [et_row] at hm
  obtain rfl := List.mem_singleton.1 hm
  have hh : typeHandle Tryd.prog 91 = .pointer (some ⟨7, 91, none⟩) := by kernel_rfl
  rw [hh] at e5
  unfold HandleE
  simpa using World.var?_cell et_global e5 0
theorem door_met_handle (os : Os) (args : Array Value) : laidMetH Tryd.prog Rows.fnExactTokenizeRow.laid ((World.doorLaid Tryd.prog 400 os).forCall (fun _ _ => 0) ⟨#[], args, []⟩).memory :=
  laidMetH_of_parts (laidMet_nil _ _) (by kernel_rfl)
end Go.Proofs.YtdkjiafdfenbkaaDoor
