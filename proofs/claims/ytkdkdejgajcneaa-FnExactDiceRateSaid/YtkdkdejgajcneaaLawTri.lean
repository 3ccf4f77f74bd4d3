/- Contracts of triangles. -/
import Derived.Test.YtkdkdejgajcneaaBase
namespace Go.Proofs.Ytkdkdejgajcneaa
open Go.RowKit
@[reducible] def triV (a b c d e' f g h i : Int) : Value := .agg #[.int .i64 a, .int .i64 b, .int .i64 c, .int .i64 d, .int .i64 e', .int .i64 f, .int .i64 g, .int .i64 h, .int .i64 i]
theorem toVecA3_c (a b c d e' f g h i : Int) (w : World) :
    Calls Try.prog 87 #[triV a b c d e' f g h i] w fun e w' => e = .returned (triV a b c d e' f g h i) ∧ Below w.heap.size w w' := by
  go_enter Try.func87, Try.ntmps87
  go_wp2
  go_rounds 4
  go_returns
  exact ⟨rfl, (by repeat (first | exact Below.refl _ _ | refine Below.drew ?_ | refine Below.alloc ?_ (by first | exact Nat.le_refl _ | (simp; done) | (simp; omega) | omega) _ | refine Below.more ?_ (by first | exact Nat.le_refl _ | (simp; done) | (simp; omega) | omega) _ _ | refine Below.setCell ?_ (by first | exact Nat.le_refl _ | (simp; done) | (simp; omega) | omega) _ | assumption))⟩
set_option maxHeartbeats 1000000 in
theorem toTriangle_c (a b c d e' f g h i : Int) (w : World) :
    Calls Try.prog 45 #[triV a b c d e' f g h i] w fun e w' => e = .returned (triV a b c d e' f g h i) ∧ Below w.heap.size w w' := by
  go_enter Try.func45, Try.ntmps45
  go_wp2_with fail
  refine (toVecA3_c _ _ _ _ _ _ _ _ _ _).mono ?_
  rintro e wn ⟨rfl, hbn⟩; obtain ⟨X, nX, rfl⟩ := Below.ext hbn; clear hbn
  go_wp2
  refine bodyPost_ret (v := triV a b c d e' f g h i) (by simp [results, Try.results45, go_sem]) rfl ⟨rfl, (by repeat (first | exact Below.refl _ _ | refine Below.drew ?_ | refine Below.alloc ?_ (by first | exact Nat.le_refl _ | (simp; done) | (simp; omega) | omega) _ | refine Below.more ?_ (by first | exact Nat.le_refl _ | (simp; done) | (simp; omega) | omega) _ _ | refine Below.setCell ?_ (by first | exact Nat.le_refl _ | (simp; done) | (simp; omega) | omega) _ | assumption))⟩
end Go.Proofs.Ytkdkdejgajcneaa
