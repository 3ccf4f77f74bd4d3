/- Contracts of what maps a function over the parts of vectors. -/
import Derived.Test.YtpfmcobkfofbjaaNum
namespace Go.Proofs.Ytpfmcobkfofbjaa
open Go.RowKit
@[reducible] def vecV (x y z : Int) : Value := .agg #[.int .i64 x, .int .i64 y, .int .i64 z]
/-- A coordinate, limited. -/
def cc (n : Int) : Int := clampI n (-1000000) 1000000
theorem clamped1_c (x : Int) (w : World) :
    Calls Try.prog 37 #[.int .i64 x] w fun e w' => e = .returned (.int .i64 (cc x)) ∧ w = w' := by
  go_enter Try.func37, Try.ntmps37
  go_wp2_with (go_at_call 38; refine (impl_Clamp _ _ _ _).mono ?_; rintro e w' ⟨rfl, rfl⟩)
  go_ret
  exact ⟨rfl, rfl⟩
/-- What a function value makes of one integer, the world left alone. -/
def Makes (P : Program) (f : FuncId) (cap : Array Value) (w : World) (x a : Int) : Prop :=
  ∀ W, Below w.heap.size w W → Calls P f (#[.int .i64 x] ++ cap) W fun e W' => e = .returned (.int .i64 a) ∧ W' = W
set_option maxRecDepth 100000 in
theorem impl_each (f : FuncId) (cap : Array Value) (x y z a b c : Int) (w : World)
    (hrun : ∀ (v : Value) (W : World), (callFunc f (#[v] ++ cap)).run Try.prog W = .ok (.enter f (#[v] ++ cap)) W)
    (hx : Makes Try.prog f cap w x a) (hy : Makes Try.prog f cap w y b) (hz : Makes Try.prog f cap w z c) :
    Calls Try.prog 36 #[vecV x y z, .func (.func f) #[] cap] w fun e w' => e = .returned (vecV a b c) ∧ Below w.heap.size w w' := by
  go_enter Try.func36, Try.ntmps36
  go_wp2
  refine region_tail 13 (by kernel_rfl) (by kernel_rfl) ?_
  simp only [List.take_succ_cons, List.take_zero, List.drop_succ_cons, List.drop_zero]
  repeat still_step
  still_call (hx _ (by go_grown))
  repeat still_step
  still_call (hy _ (by go_grown))
  repeat still_step
  still_call (hz _ (by go_grown))
  repeat still_step
  refine wpStill_nil ?_
  go_wp2
  go_returns
  exact ⟨rfl, (by repeat (first | exact Below.refl _ _ | refine Below.drew ?_ | refine Below.alloc ?_ (by first | exact Nat.le_refl _ | (simp; done) | (simp; omega) | omega) _ | refine Below.more ?_ (by first | exact Nat.le_refl _ | (simp; done) | (simp; omega) | omega) _ _ | refine Below.setCell ?_ (by first | exact Nat.le_refl _ | (simp; done) | (simp; omega) | omega) _ | assumption))⟩
/-- What a function value makes of two integers, the world left alone. -/
def Makes2 (P : Program) (f : FuncId) (w : World) (x y a : Int) : Prop :=
  ∀ W, Below w.heap.size w W → Calls P f #[.int .i64 x, .int .i64 y] W fun e W' => e = .returned (.int .i64 a) ∧ W' = W
set_option maxRecDepth 100000 in
set_option maxHeartbeats 1000000 in
theorem impl_with (f : FuncId) (x y z x2 y2 z2 a b c : Int) (w : World)
    (hrun : ∀ (v v' : Value) (W : World), (callFunc f #[v, v']).run Try.prog W = .ok (.enter f #[v, v']) W)
    (hx : Makes2 Try.prog f w x x2 a) (hy : Makes2 Try.prog f w y y2 b) (hz : Makes2 Try.prog f w z z2 c) :
    Calls Try.prog 39 #[vecV x y z, vecV x2 y2 z2, .func (.func f) #[] #[]] w fun e w' => e = .returned (vecV a b c) ∧ Below w.heap.size w w' := by
  go_enter Try.func39, Try.ntmps39
  go_wp2
  refine region_tail 19 (by kernel_rfl) (by kernel_rfl) ?_
  simp only [List.take_succ_cons, List.take_zero, List.drop_succ_cons, List.drop_zero]
  repeat still_step
  still_call (hx _ (by go_grown))
  repeat still_step
  still_call (hy _ (by go_grown))
  repeat still_step
  still_call (hz _ (by go_grown))
  repeat still_step
  refine wpStill_nil ?_
  go_wp2
  go_returns
  exact ⟨rfl, (by repeat (first | exact Below.refl _ _ | refine Below.drew ?_ | refine Below.alloc ?_ (by first | exact Nat.le_refl _ | (simp; done) | (simp; omega) | omega) _ | refine Below.more ?_ (by first | exact Nat.le_refl _ | (simp; done) | (simp; omega) | omega) _ _ | refine Below.setCell ?_ (by first | exact Nat.le_refl _ | (simp; done) | (simp; omega) | omega) _ | assumption))⟩
end Go.Proofs.Ytpfmcobkfofbjaa
