/- Contracts of what the laws do with slices of Vec. -/
import Derived.Test.YtkdkdejgajcneaaTrod
import Derived.Test.YtkdkdejgajcneaaRecs
namespace Go.Proofs.Ytkdkdejgajcneaa
open Go.RowKit
set_option linter.unusedVariables false
structure VecD where
  f0 : Int
  f1 : Int
  f2 : Int
instance : Inhabited VecD := ⟨⟨0, 0, 0⟩⟩
@[reducible] def VecD.cells (x : VecD) : List Value := [.int .i64 x.f0, .int .i64 x.f1, .int .i64 x.f2]
def VecD.at (l : List VecD) (i : Nat) : List Value := (l.getD i default).cells
theorem VecD.at_len (l : List VecD) (i : Nat) : (VecD.at l i).length = 3 := rfl
theorem info_Vec : (Try.prog.info? 27).map (fun i => (i.zero, i.size, i.bytes)) = some (some (.agg #[.int .i64 0, .int .i64 0, .int .i64 0]), 3, 24) := by kernel_rfl
end Go.Proofs.Ytkdkdejgajcneaa
