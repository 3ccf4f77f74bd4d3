/- Plain numbers: bounds of products and of rounded quotients. -/
import Derived.Test.YtdkjiafdfenbkaaDoorMath
namespace Go.Proofs.YtdkjiafdfenbkaaDoor
open Go.RowKit
theorem mul_bd {x y : Int} {a b : Nat} (hx : -(a : Int) ≤ x ∧ x ≤ a) (hy : -(b : Int) ≤ y ∧ y ≤ b) : -((a * b : Nat) : Int) ≤ x * y ∧ x * y ≤ ((a * b : Nat) : Int) := by
  have h := Int.natAbs_mul x y
  have h1 : x.natAbs ≤ a := by omega
  have h2 : y.natAbs ≤ b := by omega
  have h3 := Nat.mul_le_mul h1 h2
  omega
theorem fdiv_bd {a b : Int} {m : Nat} (h : -(m : Int) ≤ a ∧ a ≤ m) : -(m : Int) ≤ fdivI a b ∧ fdivI a b ≤ m := by
  unfold fdivI
  split
  · omega
  · have h1 : b * (a / b) ≤ a := Int.mul_ediv_self_le (by omega)
    have h2 : a < b * (a / b) + b := Int.lt_mul_ediv_self_add (by omega)
    generalize a / b = q at *
    constructor
    · by_cases hq : 0 ≤ q
      · omega
      · have h3 : b * (q + 1) ≤ 1 * (q + 1) := Int.mul_le_mul_of_nonpos_right (by omega) (by omega)
        rw [Int.mul_add] at h3
        omega
    · by_cases hq : 0 ≤ q
      · have h3 : 1 * q ≤ b * q := Int.mul_le_mul_of_nonneg_right (by omega) (by omega)
        omega
      · omega
end Go.Proofs.YtdkjiafdfenbkaaDoor
