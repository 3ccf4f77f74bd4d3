/- Contracts of the camera's smallest functions. -/
import Derived.Test.YtdkjiafdfenbkaaDoorBase
namespace Go.Proofs.YtdkjiafdfenbkaaDoor
open Go.RowKit

/-- A camera's fields are in their ranges. -/
def camOk (W H Z N L F : Int) : Bool := inB W 1 12 && inB H 1 12 && inB Z 1 65536 && inB N 1 1000000 && inB L 0 64 && inB F 0 1000000
@[reducible] def camV (W H Z N : Int) (D : Bool) (L F : Int) : Value := .agg #[.int .i64 W, .int .i64 H, .int .i64 Z, .int .i64 N, .bool D, .int .i64 L, .int .i64 F]
theorem impl_IsValidCamera (W H Z N : Int) (D : Bool) (L F : Int) (w : World) :
    Calls Tryd.prog 38 #[camV W H Z N D L F] w fun e w' => e = .returned (.bool (camOk W H Z N L F)) ∧ Below w.heap.size w w' := by
  go_enter Tryd.func38, Tryd.ntmps38
  go_wp2_with (go_at_call 47; refine (within_c _ _ _ _).mono ?_; rintro e w' ⟨rfl, rfl⟩)
  all_goals (go_ret; refine ⟨ret_bool ?_, (by repeat (first | exact Below.refl _ _ | refine Below.drew ?_ | refine Below.alloc ?_ (by first | exact Nat.le_refl _ | (simp; done) | (simp; omega) | omega) _ | refine Below.more ?_ (by first | exact Nat.le_refl _ | (simp; done) | (simp; omega) | omega) _ _ | refine Below.setCell ?_ (by first | exact Nat.le_refl _ | (simp; done) | (simp; omega) | omega) _ | assumption))⟩; simp [camOk, *])
theorem spec_IsValidCamera (W H Z N : Int) (D : Bool) (L F : Int) (w : World) :
    Calls Tryd.prog 37 #[camV W H Z N D L F] w fun e w' => e = .returned (.bool (camOk W H Z N L F)) ∧ Below w.heap.size w w' := by
  go_enter Tryd.func37, Tryd.ntmps37
  go_wp2_with (go_at_call 52; refine (l01In_c _ _ _ _).mono ?_; rintro e w' ⟨rfl, rfl⟩)
  all_goals (go_ret; refine ⟨ret_bool ?_, (by repeat (first | exact Below.refl _ _ | refine Below.drew ?_ | refine Below.alloc ?_ (by first | exact Nat.le_refl _ | (simp; done) | (simp; omega) | omega) _ | refine Below.more ?_ (by first | exact Nat.le_refl _ | (simp; done) | (simp; omega) | omega) _ _ | refine Below.setCell ?_ (by first | exact Nat.le_refl _ | (simp; done) | (simp; omega) | omega) _ | assumption))⟩; simp [camOk, *])
theorem toCamera_c (W H Z N : Int) (D : Bool) (L F : Int) (w : World) :
    Calls Tryd.prog 14 #[camV W H Z N D L F] w fun e w' => e = .returned (camV W H Z N D L F) ∧ Below w.heap.size w w' := by
  go_enter Tryd.func14, Tryd.ntmps14
  go_wp2
  exact bodyPost_ret (v := camV W H Z N D L F) (by simp [results, Tryd.results14, go_sem]) rfl ⟨rfl, (by repeat (first | exact Below.refl _ _ | refine Below.drew ?_ | refine Below.alloc ?_ (by first | exact Nat.le_refl _ | (simp; done) | (simp; omega) | omega) _ | refine Below.more ?_ (by first | exact Nat.le_refl _ | (simp; done) | (simp; omega) | omega) _ _ | refine Below.setCell ?_ (by first | exact Nat.le_refl _ | (simp; done) | (simp; omega) | omega) _ | assumption))⟩
end Go.Proofs.YtdkjiafdfenbkaaDoor
