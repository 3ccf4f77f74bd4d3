/- Contracts of limiting and rounded division. -/
import Derived.Test.YtdkjiafdfenbkaaDoorBase
namespace Go.Proofs.YtdkjiafdfenbkaaDoor
open Go.RowKit

theorem impl_Clamp (n lo hi : Int) (w : World) :
    Calls Tryd.prog 51 #[.int .i64 n, .int .i64 lo, .int .i64 hi] w fun e w' => e = .returned (.int .i64 (clampI n lo hi)) ∧ w = w' := by
  go_enter Tryd.func51, Tryd.ntmps51
  go_wp2
  all_goals (go_ret; refine ⟨ret_int ?_, rfl⟩; simp only [clampI]; omega)
theorem impl_FloorDiv (a b : Int) (w : World) (h1 : -9223372036854775808 ≤ a) (h2 : a ≤ 9223372036854775807) :
    Calls Tryd.prog 50 #[.int .i64 a, .int .i64 b] w fun e w' => e = .returned (.int .i64 (fdivI a b)) ∧ w = w' := by
  by_cases hb : b < 1
  · clear h1 h2
    go_enter Tryd.func50, Tryd.ntmps50
    go_wp2
    go_ret
    exact ⟨ret_int (fdiv_lo hb).symm, rfl⟩
  · have hb' : 1 ≤ b := by omega
    have h1' := Lib.hid h1
    have h2' := Lib.hid h2
    clear h1 h2
    go_enter Tryd.func50, Tryd.ntmps50
    go_wp2
    · go_ret
      exact ⟨ret_int (fdiv_neg hb' h1'.out h2'.out (by assumption)), rfl⟩
    · go_ret
      exact ⟨ret_int (fdiv_pos hb' h1'.out h2'.out (Int.not_lt.2 (by assumption))), rfl⟩
end Go.Proofs.YtdkjiafdfenbkaaDoor
