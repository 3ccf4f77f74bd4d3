/- Contracts of limiting and rounded division. -/
import Derived.Test.YtkdkdejgajcneaaBase
namespace Go.Proofs.Ytkdkdejgajcneaa
open Go.RowKit

theorem impl_Clamp (n lo hi : Int) (w : World) :
    Calls Try.prog 95 #[.int .i64 n, .int .i64 lo, .int .i64 hi] w fun e w' => e = .returned (.int .i64 (clampI n lo hi)) ∧ w = w' := by
  go_enter Try.func95, Try.ntmps95
  go_wp2
  all_goals (go_ret; refine ⟨ret_int ?_, rfl⟩; simp only [clampI]; omega)
theorem spec_Clamp (n lo hi : Int) (w : World) :
    Calls Try.prog 112 #[.int .i64 n, .int .i64 lo, .int .i64 hi] w fun e w' => e = .returned (.int .i64 (clampI n lo hi)) ∧ w = w' := by
  go_enter Try.func112, Try.ntmps112
  go_wp2
  all_goals (go_ret; refine ⟨ret_int ?_, rfl⟩; simp only [clampI]; omega)
theorem impl_FloorDiv (a b : Int) (w : World) (h1 : -9223372036854775808 ≤ a) (h2 : a ≤ 9223372036854775807) :
    Calls Try.prog 94 #[.int .i64 a, .int .i64 b] w fun e w' => e = .returned (.int .i64 (fdivI a b)) ∧ w = w' := by
  by_cases hb : b < 1
  · clear h1 h2
    go_enter Try.func94, Try.ntmps94
    go_wp2
    go_ret
    exact ⟨ret_int (fdiv_lo hb).symm, rfl⟩
  · have hb' : 1 ≤ b := by omega
    have h1' := Lib.hid h1
    have h2' := Lib.hid h2
    clear h1 h2
    go_enter Try.func94, Try.ntmps94
    go_wp2
    · go_ret
      exact ⟨ret_int (fdiv_neg hb' h1'.out h2'.out (by assumption)), rfl⟩
    · go_ret
      exact ⟨ret_int (fdiv_pos hb' h1'.out h2'.out (Int.not_lt.2 (by assumption))), rfl⟩
theorem spec_FloorDiv (a b : Int) (w : World) (h1 : -9223372036854775808 ≤ a) (h2 : a ≤ 9223372036854775807) :
    Calls Try.prog 111 #[.int .i64 a, .int .i64 b] w fun e w' => e = .returned (.int .i64 (fdivI a b)) ∧ w = w' := by
  by_cases hb : b < 1
  · clear h1 h2
    go_enter Try.func111, Try.ntmps111
    go_wp2
    go_ret
    exact ⟨ret_int (fdiv_lo hb).symm, rfl⟩
  · have hb' : 1 ≤ b := by omega
    have h1' := Lib.hid h1
    have h2' := Lib.hid h2
    clear h1 h2
    go_enter Try.func111, Try.ntmps111
    go_wp2
    · go_ret
      exact ⟨ret_int (fdiv_neg hb' h1'.out h2'.out (by assumption)), rfl⟩
    · go_ret
      exact ⟨ret_int (fdiv_pos hb' h1'.out h2'.out (Int.not_lt.2 (by assumption))), rfl⟩
/-- The absolute value. -/
theorem impl_absolute (n : Int) (w : World) (h : -9223372036854775807 ≤ n) (h' : n ≤ 9223372036854775807) :
    Calls Try.prog 115 #[.int .i64 n] w fun e w' => e = .returned (.int .i64 (n.natAbs : Int)) ∧ w = w' := by
  go_enter Try.func115, Try.ntmps115
  go_wp2
  all_goals (go_ret; refine ⟨ret_int ?_, rfl⟩; omega)
theorem spec_Abs (n : Int) (w : World) (h : -9223372036854775807 ≤ n) (h' : n ≤ 9223372036854775807) :
    Calls Try.prog 100 #[.int .i64 n] w fun e w' => e = .returned (.int .i64 (n.natAbs : Int)) ∧ w = w' := by
  go_enter Try.func100, Try.ntmps100
  go_wp2
  all_goals (go_ret; refine ⟨ret_int ?_, rfl⟩; omega)
end Go.Proofs.Ytkdkdejgajcneaa
