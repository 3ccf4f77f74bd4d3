/- Contracts of what the laws do with slices of Sample. -/
import Derived.Test.YtdkjiafdfenbkaaTrod
import Derived.Test.YtdkjiafdfenbkaaRecs
namespace Go.Proofs.Ytdkjiafdfenbkaa
open Go.RowKit
set_option linter.unusedVariables false
structure SampleD where
  f0 : Int
  f1 : Int
  f2 : Int
  f3 : Int
  f4 : Int
instance : Inhabited SampleD := ⟨⟨0, 0, 0, 0, 0⟩⟩
@[reducible] def SampleD.cells (x : SampleD) : List Value := [.int .i64 x.f0, .int .i64 x.f1, .int .i64 x.f2, .int .i64 x.f3, .int .i64 x.f4]
def SampleD.at (l : List SampleD) (i : Nat) : List Value := (l.getD i default).cells
theorem SampleD.at_len (l : List SampleD) (i : Nat) : (SampleD.at l i).length = 5 := rfl
theorem info_Sample : (Try.prog.info? 31).map (fun i => (i.zero, i.size, i.bytes)) = some (some (.agg #[.int .i64 0, .int .i64 0, .int .i64 0, .int .i64 0, .int .i64 0]), 5, 40) := by kernel_rfl
end Go.Proofs.Ytdkjiafdfenbkaa
