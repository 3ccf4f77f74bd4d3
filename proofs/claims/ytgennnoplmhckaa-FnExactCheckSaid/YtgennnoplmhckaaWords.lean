/- Contracts of IsVariable, Arity and CheckText. -/
import Derived.Test.YtgennnoplmhckaaBase
namespace Go.Proofs.Ytgennnoplmhckaa
open Go.RowKit
def isVar (s : ByteArray) : Bool := [[117], [118], [120], [121], [122], [116]].contains s.toList
/-- How many parameters a function of the shading language has; -1 where there is none of that name. -/
def arityI (s : ByteArray) : Int :=
  if [[97, 98, 115], [102, 108, 111, 111, 114], [100, 117], [100, 118]].contains s.toList then 1
  else if [[109, 105, 110], [109, 97, 120], [115, 116, 101, 112], [110, 111, 105, 115, 101], [116, 101, 120]].contains s.toList then 2
  else if [[99, 108, 97, 109, 112], [109, 105, 120]].contains s.toList then 3 else -1
theorem impl_IsVariable (s : ByteArray) (w : World) :
    Calls Try.prog 78 #[.string s] w fun e w' => e = .returned (.bool (isVar s)) ∧ w = w' := by
  go_enter Try.func78, Try.ntmps78
  go_wp2
  all_goals (go_ret; refine ⟨ret_bool ?_, rfl⟩; simp_all [isVar])
theorem spec_IsVariable (s : ByteArray) (w : World) :
    Calls Try.prog 72 #[.string s] w fun e w' => e = .returned (.bool (isVar s)) ∧ Below w.heap.size w w' := by
  go_enter Try.func72, Try.ntmps72
  go_wp2
  go_rounds 7
  all_goals (go_ret; refine ⟨ret_bool ?_, (by repeat (first | exact Below.refl _ _ | refine Below.drew ?_ | refine Below.alloc ?_ (by first | exact Nat.le_refl _ | (simp; done) | (simp; omega) | omega) _ | refine Below.more ?_ (by first | exact Nat.le_refl _ | (simp; done) | (simp; omega) | omega) _ _ | refine Below.setCell ?_ (by first | exact Nat.le_refl _ | (simp; done) | (simp; omega) | omega) _ | assumption))⟩; simp_all [isVar, eq_comm (a := s.toList)])
theorem impl_Arity (s : ByteArray) (w : World) :
    Calls Try.prog 89 #[.string s] w fun e w' => e = .returned (.int .i64 (arityI s)) ∧ w = w' := by
  go_enter Try.func89, Try.ntmps89
  go_wp2
  all_goals (go_ret; refine ⟨ret_int ?_, rfl⟩; simp_all [arityI])
theorem spec_Arity (s : ByteArray) (w : World) :
    Calls Try.prog 71 #[.string s] w fun e w' => e = .returned (.int .i64 (arityI s)) ∧ w = w' := by
  go_enter Try.func71, Try.ntmps71
  go_wp2
  all_goals (go_ret; refine ⟨ret_int ?_, rfl⟩; simp_all [arityI])
end Go.Proofs.Ytgennnoplmhckaa
