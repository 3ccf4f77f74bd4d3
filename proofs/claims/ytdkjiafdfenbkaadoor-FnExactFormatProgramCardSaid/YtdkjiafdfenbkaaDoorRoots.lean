/- Contracts of Roots. -/
import Derived.Test.YtdkjiafdfenbkaaDoorProgram
import Derived.Test.YtdkjiafdfenbkaaDoorAppend
namespace Go.Proofs.YtdkjiafdfenbkaaDoor
open Go.RowKit
def rootsL (l : List AssignmentD) : List Int := l.map (·.f1)
def rootsD (p : ProgD) : List Int := rootsL p.asg
theorem rootsL_take {l : List AssignmentD} {k : Nat} (h : k < l.length) : rootsL (l.take (k + 1)) = rootsL (l.take k) ++ [(l.getD k default).f1] := by
  rw [List.take_succ_eq_append_getElem h, List.getD_eq_getElem?_getD, List.getElem?_eq_getElem h]
  simp only [rootsL, List.map_append, List.map_cons, List.map_nil, Option.getD_some]
theorem rootsL_len (l : List AssignmentD) : (rootsL l).length = l.length := by simp [rootsL]
theorem rootsD_len (p : ProgD) (h : ProgramSz 1048576 p) : (rootsD p).length ≤ 1048576 := by
  rw [rootsD, rootsL_len, p.hA]; exact h.2.1
theorem ints_at {ts : List Int} : ∀ i, i < ts.length → ∀ j, j < 1 → (ts.map (Value.int .i64))[i * 1 + j]? = (intAt ts i)[j]? := by
  intro i hi j hj
  obtain rfl : j = 0 := by omega
  rw [Nat.mul_one, Nat.add_zero]
  simp [intAt, hi]
end Go.Proofs.YtdkjiafdfenbkaaDoor
