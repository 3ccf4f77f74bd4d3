/- Contracts of IsVariable, Arity and CheckText. -/
import Derived.Test.YtaonobdoelnpbaaBase
namespace Go.Proofs.Ytaonobdoelnpbaa
open Go.RowKit
def isVar (s : ByteArray) : Bool := [[117], [118], [120], [121], [122], [116]].contains s.toList
/-- How many parameters a function of the shading language has; -1 where there is none of that name. -/
def arityI (s : ByteArray) : Int :=
  if [[97, 98, 115], [102, 108, 111, 111, 114], [100, 117], [100, 118]].contains s.toList then 1
  else if [[109, 105, 110], [109, 97, 120], [115, 116, 101, 112], [110, 111, 105, 115, 101], [116, 101, 120]].contains s.toList then 2
  else if [[99, 108, 97, 109, 112], [109, 105, 120]].contains s.toList then 3 else -1
theorem impl_IsVariable (s : ByteArray) (w : World) :
    Calls Try.prog 10 #[.string s] w fun e w' => e = .returned (.bool (isVar s)) ∧ w = w' := by
  go_enter Try.func10, Try.ntmps10
  go_wp2
  all_goals (go_ret; refine ⟨ret_bool ?_, rfl⟩; simp_all [isVar])
theorem spec_IsVariable (s : ByteArray) (w : World) :
    Calls Try.prog 9 #[.string s] w fun e w' => e = .returned (.bool (isVar s)) ∧ Below w.heap.size w w' := by
  go_enter Try.func9, Try.ntmps9
  go_wp2
  go_rounds 7
  all_goals (go_ret; refine ⟨ret_bool ?_, (by repeat (first | exact Below.refl _ _ | refine Below.drew ?_ | refine Below.alloc ?_ (by first | exact Nat.le_refl _ | (simp; done) | (simp; omega) | omega) _ | refine Below.setCell ?_ (by first | exact Nat.le_refl _ | (simp; done) | (simp; omega) | omega) _ | refine Below.step ?_ (by assumption) (by first | exact Nat.le_refl _ | (simp; done) | (simp; omega) | omega)))⟩; simp_all [isVar, eq_comm (a := s.toList)])
theorem impl_Arity (s : ByteArray) (w : World) :
    Calls Try.prog 20 #[.string s] w fun e w' => e = .returned (.int .i64 (arityI s)) ∧ w = w' := by
  go_enter Try.func20, Try.ntmps20
  go_wp2
  all_goals (go_ret; refine ⟨ret_int ?_, rfl⟩; simp_all [arityI])
theorem spec_Arity (s : ByteArray) (w : World) :
    Calls Try.prog 19 #[.string s] w fun e w' => e = .returned (.int .i64 (arityI s)) ∧ w = w' := by
  go_enter Try.func19, Try.ntmps19
  go_wp2
  all_goals (go_ret; refine ⟨ret_int ?_, rfl⟩; simp_all [arityI])
/-- The word of a code. -/
def codeText (n : Int) : ByteArray :=
  if n = 0 then ⟨#[111, 107]⟩ else if n = 1 then ⟨#[112, 114, 111, 103, 114, 97, 109]⟩ else if n = 2 then ⟨#[110, 97, 109, 101]⟩
  else if n = 3 then ⟨#[97, 114, 105, 116, 121]⟩ else if n = 4 then ⟨#[97, 115, 115, 105, 103, 110]⟩ else if n = 5 then ⟨#[99, 111, 108, 111, 114]⟩ else ⟨#[]⟩
theorem ret_str {a b : ByteArray} (h : a = b) : Ending.returned (.string a) = .returned (.string b) := by rw [h]
theorem code_cases {n : Int} (h : inB n 0 5 = true) : n = 0 ∨ n = 1 ∨ n = 2 ∨ n = 3 ∨ n = 4 ∨ n = 5 := by
  rw [inB_true] at h; omega
theorem code_out {n : Int} (h : inB n 0 5 = false) : codeText n = ⟨#[]⟩ := by
  rw [inB_false] at h
  simp only [codeText]
  repeat' (split; omega)
  rfl
theorem impl_CheckText (n : Int) (w : World) :
    Calls Try.prog 12 #[.int .i64 n] w fun e w' => e = .returned (.string (codeText n)) ∧ Below w.heap.size w w' := by
  cases hb : inB n 0 5
  · go_enter Try.func12, Try.ntmps12
    go_wp2_with (go_at_call 24; refine (within_c _ _ _ _).mono ?_; rintro e w' ⟨rfl, rfl⟩)
    go_ret
    exact ⟨ret_str (code_out hb).symm, (by repeat (first | exact Below.refl _ _ | refine Below.drew ?_ | refine Below.alloc ?_ (by first | exact Nat.le_refl _ | (simp; done) | (simp; omega) | omega) _ | refine Below.setCell ?_ (by first | exact Nat.le_refl _ | (simp; done) | (simp; omega) | omega) _ | refine Below.step ?_ (by assumption) (by first | exact Nat.le_refl _ | (simp; done) | (simp; omega) | omega)))⟩
  · rcases code_cases hb with rfl | rfl | rfl | rfl | rfl | rfl
    all_goals
      clear hb
      go_enter Try.func12, Try.ntmps12
      go_wp2
      go_ret
      exact ⟨ret_str rfl, (by repeat (first | exact Below.refl _ _ | refine Below.drew ?_ | refine Below.alloc ?_ (by first | exact Nat.le_refl _ | (simp; done) | (simp; omega) | omega) _ | refine Below.setCell ?_ (by first | exact Nat.le_refl _ | (simp; done) | (simp; omega) | omega) _ | refine Below.step ?_ (by assumption) (by first | exact Nat.le_refl _ | (simp; done) | (simp; omega) | omega)))⟩
theorem spec_CheckText (n : Int) (w : World) :
    Calls Try.prog 11 #[.int .i64 n] w fun e w' => e = .returned (.string (codeText n)) ∧ Below w.heap.size w w' := by
  cases hb : inB n 0 5
  · go_enter Try.func11, Try.ntmps11
    go_wp2_with (go_at_call 23; refine (l01In_c _ _ _ _).mono ?_; rintro e w' ⟨rfl, rfl⟩)
    go_ret
    exact ⟨ret_str (code_out hb).symm, (by repeat (first | exact Below.refl _ _ | refine Below.drew ?_ | refine Below.alloc ?_ (by first | exact Nat.le_refl _ | (simp; done) | (simp; omega) | omega) _ | refine Below.setCell ?_ (by first | exact Nat.le_refl _ | (simp; done) | (simp; omega) | omega) _ | refine Below.step ?_ (by assumption) (by first | exact Nat.le_refl _ | (simp; done) | (simp; omega) | omega)))⟩
  · rcases code_cases hb with rfl | rfl | rfl | rfl | rfl | rfl
    all_goals
      clear hb
      go_enter Try.func11, Try.ntmps11
      go_wp2
      go_ret
      exact ⟨ret_str rfl, (by repeat (first | exact Below.refl _ _ | refine Below.drew ?_ | refine Below.alloc ?_ (by first | exact Nat.le_refl _ | (simp; done) | (simp; omega) | omega) _ | refine Below.setCell ?_ (by first | exact Nat.le_refl _ | (simp; done) | (simp; omega) | omega) _ | refine Below.step ?_ (by assumption) (by first | exact Nat.le_refl _ | (simp; done) | (simp; omega) | omega)))⟩
end Go.Proofs.Ytaonobdoelnpbaa
