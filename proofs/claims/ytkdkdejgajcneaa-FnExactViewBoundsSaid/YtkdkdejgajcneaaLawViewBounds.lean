/- The walk of the law FnExactViewBounds. -/
import Derived.Test.YtkdkdejgajcneaaPixelAt
import Derived.Test.YtkdkdejgajcneaaVec
import Derived.Test.YtkdkdejgajcneaaOpen
namespace Go.Proofs.Ytkdkdejgajcneaa
open Go.RowKit
@[reducible] def boxV (a b c d e' f : Int) : Value := .agg #[.int .i64 a, .int .i64 b, .int .i64 c, .int .i64 d, .int .i64 e', .int .i64 f]
/-- The box of what can be seen. -/
def viewA (ok : Bool) (n : Int) : Int := if ok then n else 0
@[reducible] def viewV (ok : Bool) (W H N : Int) : Value := boxV 0 0 (viewA ok N) (viewA ok (W * 16 - 1)) (viewA ok (H * 16 - 1)) (viewA ok 1000000)
theorem impl_ViewBounds (W H Z N : Int) (D : Bool) (L F : Int) (w : World) :
    Calls Try.prog 49 #[camV W H Z N D L F] w fun e w' => e = .returned (viewV (camOk W H Z N L F) W H N) ∧ Below w.heap.size w w' := by
  cases hk : camOk W H Z N L F
  · go_enter Try.func49, Try.ntmps49
    go_wp2_with (go_at_call 63; refine (impl_IsValidCamera _ _ _ _ _ _ _ _).mono ?_; rintro e wn ⟨rfl, hbn⟩; obtain ⟨X, nX, rfl⟩ := Below.ext hbn; clear hbn)
    exact bodyPost_ret (v := viewV false W H N) (by simp [results, Try.results49, go_sem, viewA]) rfl ⟨rfl, (by repeat (first | exact Below.refl _ _ | refine Below.drew ?_ | refine Below.alloc ?_ (by first | exact Nat.le_refl _ | (simp; done) | (simp; omega) | omega) _ | refine Below.more ?_ (by first | exact Nat.le_refl _ | (simp; done) | (simp; omega) | omega) _ _ | refine Below.setCell ?_ (by first | exact Nat.le_refl _ | (simp; done) | (simp; omega) | omega) _ | assumption))⟩
  · obtain ⟨⟨hw1, hw2⟩, ⟨hh1, hh2⟩, _⟩ := camOk_bd hk
    go_enter Try.func49, Try.ntmps49
    go_wp2_with (go_at_call 63; refine (impl_IsValidCamera _ _ _ _ _ _ _ _).mono ?_; rintro e wn ⟨rfl, hbn⟩; obtain ⟨X, nX, rfl⟩ := Below.ext hbn; clear hbn)
    exact bodyPost_ret (v := viewV true W H N) (by simp [results, Try.results49, go_sem, viewA]) rfl ⟨rfl, (by repeat (first | exact Below.refl _ _ | refine Below.drew ?_ | refine Below.alloc ?_ (by first | exact Nat.le_refl _ | (simp; done) | (simp; omega) | omega) _ | refine Below.more ?_ (by first | exact Nat.le_refl _ | (simp; done) | (simp; omega) | omega) _ _ | refine Below.setCell ?_ (by first | exact Nat.le_refl _ | (simp; done) | (simp; omega) | omega) _ | assumption))⟩
theorem spec_ViewBounds (W H Z N : Int) (D : Bool) (L F : Int) (w : World) :
    Calls Try.prog 48 #[camV W H Z N D L F] w fun e w' => e = .returned (viewV (camOk W H Z N L F) W H N) ∧ Below w.heap.size w w' := by
  cases hk : camOk W H Z N L F
  · go_enter Try.func48, Try.ntmps48
    go_wp2_with (go_at_call 66; refine (spec_IsValidCamera _ _ _ _ _ _ _ _).mono ?_; rintro e wn ⟨rfl, hbn⟩; obtain ⟨X, nX, rfl⟩ := Below.ext hbn; clear hbn)
    exact bodyPost_ret (v := viewV false W H N) (by simp [results, Try.results48, go_sem, viewA]) rfl ⟨rfl, (by repeat (first | exact Below.refl _ _ | refine Below.drew ?_ | refine Below.alloc ?_ (by first | exact Nat.le_refl _ | (simp; done) | (simp; omega) | omega) _ | refine Below.more ?_ (by first | exact Nat.le_refl _ | (simp; done) | (simp; omega) | omega) _ _ | refine Below.setCell ?_ (by first | exact Nat.le_refl _ | (simp; done) | (simp; omega) | omega) _ | assumption))⟩
  · obtain ⟨⟨hw1, hw2⟩, ⟨hh1, hh2⟩, _⟩ := camOk_bd hk
    go_enter Try.func48, Try.ntmps48
    go_wp2_with (go_at_call 66; refine (spec_IsValidCamera _ _ _ _ _ _ _ _).mono ?_; rintro e wn ⟨rfl, hbn⟩; obtain ⟨X, nX, rfl⟩ := Below.ext hbn; clear hbn)
    exact bodyPost_ret (v := viewV true W H N) (by simp [results, Try.results48, go_sem, viewA]) rfl ⟨rfl, (by repeat (first | exact Below.refl _ _ | refine Below.drew ?_ | refine Below.alloc ?_ (by first | exact Nat.le_refl _ | (simp; done) | (simp; omega) | omega) _ | refine Below.more ?_ (by first | exact Nat.le_refl _ | (simp; done) | (simp; omega) | omega) _ _ | refine Below.setCell ?_ (by first | exact Nat.le_refl _ | (simp; done) | (simp; omega) | omega) _ | assumption))⟩
theorem eqBox_c (a b c d e' f : Int) (w : World) : Calls Try.prog 50 #[boxV a b c d e' f, boxV a b c d e' f] w fun e w' => e = .returned (.bool true) ∧ Below w.heap.size w w' := by
  go_enter Try.func50, Try.ntmps50
  go_wp2_with (go_at_call 54; refine (eqVec_c _ _ _ _).mono ?_; rintro e wn ⟨rfl, hbn⟩; obtain ⟨X, nX, rfl⟩ := Below.ext hbn; clear hbn)
  all_goals (go_ret; exact ⟨rfl, (by repeat (first | exact Below.refl _ _ | refine Below.drew ?_ | refine Below.alloc ?_ (by first | exact Nat.le_refl _ | (simp; done) | (simp; omega) | omega) _ | refine Below.more ?_ (by first | exact Nat.le_refl _ | (simp; done) | (simp; omega) | omega) _ _ | refine Below.setCell ?_ (by first | exact Nat.le_refl _ | (simp; done) | (simp; omega) | omega) _ | assumption))⟩)
set_option maxRecDepth 100000 in
theorem law_ViewBounds {H : Type} {enc : TypeId × Value → H} {W : World} {base : Nat} {v0 : Value} {d0 : DataW H} {p0 : List MemPlace}
    (k0 : Value.okWide Try.prog W .any base 48 v0) (_ : DataW.Trod enc Try.prog W 0 (fun _ => true) true 48 v0 d0 p0) :
    Calls Try.prog 13 #[v0] W fun e W' => e = .returned (.bool true) ∧ Below W.heap.size W W' := by
  obtain ⟨cW, cH, cZ, cN, cD, cL, cF, rfl, _⟩ := open_camera k0
  clear k0
  go_enter Try.func13, Try.ntmps13
  go_wp2_with (first | (go_at_call 23; refine (toCamera_c _ _ _ _ _ _ _ _).mono ?_; rintro e wn ⟨rfl, hbn⟩; obtain ⟨X, nX, rfl⟩ := Below.ext hbn; clear hbn) | (go_at_call 48; refine (spec_ViewBounds _ _ _ _ _ _ _ _).mono ?_; rintro e wn ⟨rfl, hbn⟩; obtain ⟨X, nX, rfl⟩ := Below.ext hbn; clear hbn) | (go_at_call 49; refine (impl_ViewBounds _ _ _ _ _ _ _ _).mono ?_; rintro e wn ⟨rfl, hbn⟩; obtain ⟨X, nX, rfl⟩ := Below.ext hbn; clear hbn) | (go_at_call 50; refine (eqBox_c _ _ _ _ _ _ _).mono ?_; rintro e wn ⟨rfl, hbn⟩; obtain ⟨X, nX, rfl⟩ := Below.ext hbn; clear hbn))
  all_goals (go_ret; exact ⟨rfl, (by repeat (first | exact Below.refl _ _ | refine Below.drew ?_ | refine Below.alloc ?_ (by first | exact Nat.le_refl _ | (simp; done) | (simp; omega) | omega) _ | refine Below.more ?_ (by first | exact Nat.le_refl _ | (simp; done) | (simp; omega) | omega) _ _ | refine Below.setCell ?_ (by first | exact Nat.le_refl _ | (simp; done) | (simp; omega) | omega) _ | assumption))⟩)
end Go.Proofs.Ytkdkdejgajcneaa
