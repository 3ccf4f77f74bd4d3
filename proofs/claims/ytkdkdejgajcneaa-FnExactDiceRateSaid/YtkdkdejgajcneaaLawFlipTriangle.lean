/- The walk of the law FnExactFlipTriangle. -/
import Derived.Test.YtkdkdejgajcneaaLawTri
import Derived.Test.YtkdkdejgajcneaaVec
import Derived.Test.YtkdkdejgajcneaaOpen
namespace Go.Proofs.Ytkdkdejgajcneaa
open Go.RowKit
theorem impl_FlipTriangle (a b c d e' f g h i : Int) (w : World) :
    Calls Try.prog 46 #[triV a b c d e' f g h i] w fun e w' => e = .returned (triV a b c g h i d e' f) ∧ Below w.heap.size w w' := by
  go_enter Try.func46, Try.ntmps46
  go_wp2
  exact bodyPost_ret (v := triV a b c g h i d e' f) (by simp [results, Try.results46, go_sem]) rfl ⟨rfl, (by repeat (first | exact Below.refl _ _ | refine Below.drew ?_ | refine Below.alloc ?_ (by first | exact Nat.le_refl _ | (simp; done) | (simp; omega) | omega) _ | refine Below.more ?_ (by first | exact Nat.le_refl _ | (simp; done) | (simp; omega) | omega) _ _ | refine Below.setCell ?_ (by first | exact Nat.le_refl _ | (simp; done) | (simp; omega) | omega) _ | assumption))⟩
theorem spec_FlipTriangle (a b c d e' f g h i : Int) (w : World) :
    Calls Try.prog 44 #[triV a b c d e' f g h i] w fun e w' => e = .returned (triV a b c g h i d e' f) ∧ Below w.heap.size w w' := by
  go_enter Try.func44, Try.ntmps44
  go_wp2
  exact bodyPost_ret (v := triV a b c g h i d e' f) (by simp [results, Try.results44, go_sem]) rfl ⟨rfl, (by repeat (first | exact Below.refl _ _ | refine Below.drew ?_ | refine Below.alloc ?_ (by first | exact Nat.le_refl _ | (simp; done) | (simp; omega) | omega) _ | refine Below.more ?_ (by first | exact Nat.le_refl _ | (simp; done) | (simp; omega) | omega) _ _ | refine Below.setCell ?_ (by first | exact Nat.le_refl _ | (simp; done) | (simp; omega) | omega) _ | assumption))⟩
set_option maxRecDepth 100000 in
set_option maxHeartbeats 1000000 in
theorem eqVecA3_c (a b c d e' f g h i : Int) (w : World) : Calls Try.prog 88 #[triV a b c d e' f g h i, triV a b c d e' f g h i] w fun e w' => e = .returned (.bool true) ∧ Below w.heap.size w w' := by
  go_enter Try.func88, Try.ntmps88
  go_wp2
  refine wp_loop_rounds 4 ?_
  rw [rounds_succ]; go_wp2
  (first | refine region_q2 (by kernel_rfl) (by kernel_rfl) ?_ | refine region_q (by kernel_rfl) (by kernel_rfl) ?_)
  repeat (quiet_step (fail))
  (refine wpQuiet_step (fun K hK => ?_); go_simp; refine ⟨_, fun zt => ext_below (eqVec_c _ _ _ _), hK _ ?_⟩; clear hK K)
  repeat (quiet_step (fail))
  (refine wpQuiet_nil ?_; intro X nX)
  go_wp2
  rw [rounds_succ]; go_wp2
  (first | refine region_q2 (by kernel_rfl) (by kernel_rfl) ?_ | refine region_q (by kernel_rfl) (by kernel_rfl) ?_)
  repeat (quiet_step (fail))
  (refine wpQuiet_step (fun K hK => ?_); go_simp; refine ⟨_, fun zt => ext_below (eqVec_c _ _ _ _), hK _ ?_⟩; clear hK K)
  repeat (quiet_step (fail))
  (refine wpQuiet_nil ?_; intro X nX)
  go_wp2
  rw [rounds_succ]; go_wp2
  (first | refine region_q2 (by kernel_rfl) (by kernel_rfl) ?_ | refine region_q (by kernel_rfl) (by kernel_rfl) ?_)
  repeat (quiet_step (fail))
  (refine wpQuiet_step (fun K hK => ?_); go_simp; refine ⟨_, fun zt => ext_below (eqVec_c _ _ _ _), hK _ ?_⟩; clear hK K)
  repeat (quiet_step (fail))
  (refine wpQuiet_nil ?_; intro X nX)
  go_wp2
  rw [rounds_succ]; go_wp2
  all_goals (go_ret; exact ⟨rfl, (by repeat (first | exact Below.refl _ _ | refine Below.drew ?_ | refine Below.alloc ?_ (by first | exact Nat.le_refl _ | (simp; done) | (simp; omega) | omega) _ | refine Below.more ?_ (by first | exact Nat.le_refl _ | (simp; done) | (simp; omega) | omega) _ _ | refine Below.setCell ?_ (by first | exact Nat.le_refl _ | (simp; done) | (simp; omega) | omega) _ | assumption))⟩)
theorem eqTriangle_c (a b c d e' f g h i : Int) (w : World) : Calls Try.prog 47 #[triV a b c d e' f g h i, triV a b c d e' f g h i] w fun e w' => e = .returned (.bool true) ∧ Below w.heap.size w w' := by
  go_enter Try.func47, Try.ntmps47
  go_wp2_with (go_at_call 88; refine (eqVecA3_c _ _ _ _ _ _ _ _ _ _).mono ?_; rintro e wn ⟨rfl, hbn⟩; obtain ⟨X, nX, rfl⟩ := Below.ext hbn; clear hbn)
  all_goals (go_ret; exact ⟨rfl, (by repeat (first | exact Below.refl _ _ | refine Below.drew ?_ | refine Below.alloc ?_ (by first | exact Nat.le_refl _ | (simp; done) | (simp; omega) | omega) _ | refine Below.more ?_ (by first | exact Nat.le_refl _ | (simp; done) | (simp; omega) | omega) _ _ | refine Below.setCell ?_ (by first | exact Nat.le_refl _ | (simp; done) | (simp; omega) | omega) _ | assumption))⟩)
set_option maxRecDepth 100000 in
theorem law_FlipTriangle {H : Type} {enc : TypeId × Value → H} {W : World} {base : Nat} {v0 : Value} {d0 : DataW H} {p0 : List MemPlace}
    (k0 : Value.okWide Try.prog W .any base 79 v0) (_ : DataW.Trod enc Try.prog W 0 (fun _ => true) true 79 v0 d0 p0) :
    Calls Try.prog 12 #[v0] W fun e W' => e = .returned (.bool true) ∧ Below W.heap.size W W' := by
  obtain ⟨a, b, c, d, e, f, g, h, i, rfl, _⟩ := open_triangle k0
  clear k0
  go_enter Try.func12, Try.ntmps12
  go_wp2_with (first | (go_at_call 45; refine (toTriangle_c _ _ _ _ _ _ _ _ _ _).mono ?_; rintro e wn ⟨rfl, hbn⟩; obtain ⟨X, nX, rfl⟩ := Below.ext hbn; clear hbn) | (go_at_call 44; refine (spec_FlipTriangle _ _ _ _ _ _ _ _ _ _).mono ?_; rintro e wn ⟨rfl, hbn⟩; obtain ⟨X, nX, rfl⟩ := Below.ext hbn; clear hbn) | (go_at_call 46; refine (impl_FlipTriangle _ _ _ _ _ _ _ _ _ _).mono ?_; rintro e wn ⟨rfl, hbn⟩; obtain ⟨X, nX, rfl⟩ := Below.ext hbn; clear hbn) | (go_at_call 47; refine (eqTriangle_c _ _ _ _ _ _ _ _ _ _).mono ?_; rintro e wn ⟨rfl, hbn⟩; obtain ⟨X, nX, rfl⟩ := Below.ext hbn; clear hbn))
  all_goals (go_ret; exact ⟨rfl, (by repeat (first | exact Below.refl _ _ | refine Below.drew ?_ | refine Below.alloc ?_ (by first | exact Nat.le_refl _ | (simp; done) | (simp; omega) | omega) _ | refine Below.more ?_ (by first | exact Nat.le_refl _ | (simp; done) | (simp; omega) | omega) _ _ | refine Below.setCell ?_ (by first | exact Nat.le_refl _ | (simp; done) | (simp; omega) | omega) _ | assumption))⟩)
end Go.Proofs.Ytkdkdejgajcneaa
