/- Contracts of limiting and rounded division. -/
import Derived.Test.YtpfmcobkfofbjaaBase
namespace Go.Proofs.Ytpfmcobkfofbjaa
open Go.RowKit

theorem impl_Clamp (n lo hi : Int) (w : World) :
    Calls Try.prog 38 #[.int .i64 n, .int .i64 lo, .int .i64 hi] w fun e w' => e = .returned (.int .i64 (clampI n lo hi)) ∧ w = w' := by
  go_enter Try.func38, Try.ntmps38
  go_wp2
  all_goals (go_ret; refine ⟨ret_int ?_, rfl⟩; simp only [clampI]; omega)
theorem impl_FloorDiv (a b : Int) (w : World) (h1 : -9223372036854775808 ≤ a) (h2 : a ≤ 9223372036854775807) :
    Calls Try.prog 65 #[.int .i64 a, .int .i64 b] w fun e w' => e = .returned (.int .i64 (fdivI a b)) ∧ w = w' := by
  by_cases hb : b < 1
  · clear h1 h2
    go_enter Try.func65, Try.ntmps65
    go_wp2
    go_ret
    exact ⟨ret_int (fdiv_lo hb).symm, rfl⟩
  · have hb' : 1 ≤ b := by omega
    have h1' := Lib.hid h1
    have h2' := Lib.hid h2
    clear h1 h2
    go_enter Try.func65, Try.ntmps65
    go_wp2
    · go_ret
      exact ⟨ret_int (fdiv_neg hb' h1'.out h2'.out (by assumption)), rfl⟩
    · go_ret
      exact ⟨ret_int (fdiv_pos hb' h1'.out h2'.out (Int.not_lt.2 (by assumption))), rfl⟩
end Go.Proofs.Ytpfmcobkfofbjaa
