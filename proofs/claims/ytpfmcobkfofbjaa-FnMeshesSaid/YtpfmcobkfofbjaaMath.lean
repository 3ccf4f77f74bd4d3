/- Plain numbers: rounded division. -/
import Derived.WalkKit
namespace Go.Proofs.Ytpfmcobkfofbjaa
open Go.RowKit

theorem tdiv_ediv {a b : Int} (h : 1 ≤ b) : a / b = if a.tmod b < 0 then a.tdiv b - 1 else a.tdiv b := by
  have h1 := Int.mul_tdiv_add_tmod a b
  have h2 := Int.tmod_lt_of_pos a (show (0:Int) < b by omega)
  have h3 : -b < a.tmod b := by
    by_cases ha : 0 ≤ a
    · have := Int.tmod_nonneg b ha; omega
    · have h4 := Int.tmod_lt_of_pos (-a) (show (0:Int) < b by omega)
      rw [Int.neg_tmod] at h4; omega
  generalize a.tdiv b = q at *
  generalize a.tmod b = r at *
  have e1 : b * (q - 1) = b * q - b := by rw [Int.mul_sub]; simp
  have e2 : b * (q + 1) = b * q + b := by rw [Int.mul_add]; simp
  split
  · refine (Int.ediv_eq_iff_of_pos (by omega)).2 ⟨?_, ?_⟩
    · rw [Int.mul_comm]; omega
    · rw [Int.mul_comm]; omega
  · refine (Int.ediv_eq_iff_of_pos (by omega)).2 ⟨?_, ?_⟩
    · rw [Int.mul_comm]; omega
    · rw [Int.mul_comm]; omega
theorem tdiv_bd {a b : Int} (h : 1 ≤ b) (h1 : -9223372036854775808 ≤ a) (h2 : a ≤ 9223372036854775807) : -9223372036854775808 ≤ a / b ∧ a / b ≤ 9223372036854775807 := by
  have := Int.ediv_mul_le a (show b ≠ 0 by omega)
  have h4 := Int.lt_ediv_add_one_mul_self a (show (0:Int) < b by omega)
  constructor
  · exact Int.le_ediv_of_mul_le (by omega) (by
      have : -9223372036854775808 * b ≤ -9223372036854775808 * 1 := Int.mul_le_mul_of_nonpos_left (by omega) h
      omega)
  · have : a / b < 9223372036854775808 := Int.ediv_lt_of_lt_mul (by omega) (by
      have : (9223372036854775808 : Int) * 1 ≤ 9223372036854775808 * b := Int.mul_le_mul_of_nonneg_left h (by omega)
      omega)
    omega
/-- n limited to lo .. hi. -/
def clampI (n lo hi : Int) : Int := max lo (min n hi)
/-- a divided by b, rounded down; 0 where b is not positive. -/
def fdivI (a b : Int) : Int := if b < 1 then 0 else a / b
theorem fdiv_lo {a b : Int} (h : b < 1) : fdivI a b = 0 := by simp [fdivI, h]
theorem fdiv_hi {a b : Int} (h : 1 ≤ b) : fdivI a b = a / b := by simp only [fdivI]; rw [if_neg (by omega)]
theorem fdiv_neg {a b : Int} (h : 1 ≤ b) (h1 : -9223372036854775808 ≤ a) (h2 : a ≤ 9223372036854775807) (hr : a.tmod b < 0) : wrap64 (wrap64 (a.tdiv b) - 1) = fdivI a b := by
  have e := tdiv_ediv (a := a) h
  rw [if_pos hr] at e
  have hb := tdiv_bd h h1 h2
  rw [fdiv_hi h]
  have e2 : a.tdiv b = a / b + 1 := by omega
  rw [e2]
  generalize a / b = q at *
  simp only [wrap64]; omega
theorem fdiv_pos {a b : Int} (h : 1 ≤ b) (h1 : -9223372036854775808 ≤ a) (h2 : a ≤ 9223372036854775807) (hr : ¬ a.tmod b < 0) : wrap64 (a.tdiv b) = fdivI a b := by
  have e := tdiv_ediv (a := a) h
  rw [if_neg hr] at e
  have hb := tdiv_bd h h1 h2
  rw [fdiv_hi h, ← e]
  generalize a / b = q at *
  simp only [wrap64]; omega
theorem clamp_bd {n lo hi : Int} (h : lo ≤ hi) : lo ≤ clampI n lo hi ∧ clampI n lo hi ≤ hi := by simp only [clampI]; omega
theorem clamp_in {n lo hi : Int} (h : lo ≤ n) (h' : n ≤ hi) : clampI n lo hi = n := by simp only [clampI]; omega
end Go.Proofs.Ytpfmcobkfofbjaa
