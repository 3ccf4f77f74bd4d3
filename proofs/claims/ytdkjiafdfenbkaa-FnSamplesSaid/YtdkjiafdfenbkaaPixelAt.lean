/- Contracts of PixelAt. -/
import Derived.Test.YtdkjiafdfenbkaaCam
import Derived.Test.YtdkjiafdfenbkaaNum
namespace Go.Proofs.Ytdkjiafdfenbkaa
open Go.RowKit
theorem camOk_bd {W H Z N L F : Int} (h : camOk W H Z N L F = true) : (1 ≤ W ∧ W ≤ 12) ∧ (1 ≤ H ∧ H ≤ 12) ∧ (1 ≤ Z ∧ Z ≤ 65536) ∧ (1 ≤ N ∧ N ≤ 1000000) ∧ (0 ≤ L ∧ L ≤ 64) ∧ (0 ≤ F ∧ F ≤ 1000000) := by
  simp only [camOk, Bool.and_eq_true, inB_true] at h
  obtain ⟨⟨⟨⟨⟨h1, h2⟩, h3⟩, h4⟩, h5⟩, h6⟩ := h
  exact ⟨h1, h2, h3, h4, h5, h6⟩
/-- Does a screen position lie in the image of a valid camera? -/
def pixOk (W H Z N L F x y : Int) : Bool := camOk W H Z N L F && inB x 0 (W * 16 - 1) && inB y 0 (H * 16 - 1)
def pixA (ok : Bool) (x : Int) : Int := if ok then x / 16 else 0
@[reducible] def pixV (ok : Bool) (x y : Int) : Value := .tuple #[.int .i64 (pixA ok x), .int .i64 (pixA ok y), .bool ok]
theorem impl_PixelAt (W H Z N : Int) (D : Bool) (L F x y : Int) (w : World) :
    Calls Try.prog 7 #[camV W H Z N D L F, .int .i64 x, .int .i64 y] w fun e w' => e = .returned (pixV (pixOk W H Z N L F x y) x y) ∧ Below w.heap.size w w' := by
  cases hk : camOk W H Z N L F
  · go_enter Try.func7, Try.ntmps7
    go_wp2_with (first | (go_at_call 13; refine (impl_IsValidCamera _ _ _ _ _ _ _ _).mono ?_; rintro e wn ⟨rfl, hbn⟩; obtain ⟨X, nX, rfl⟩ := Below.ext hbn; clear hbn) | (go_at_call 17; refine (within_c _ _ _ _).mono ?_; rintro e w' ⟨rfl, rfl⟩))
    all_goals (go_ret3; refine ⟨by simp [pixOk, pixA, hk], (by repeat (first | exact Below.refl _ _ | refine Below.drew ?_ | refine Below.alloc ?_ (by first | exact Nat.le_refl _ | (simp; done) | (simp; omega) | omega) _ | refine Below.more ?_ (by first | exact Nat.le_refl _ | (simp; done) | (simp; omega) | omega) _ _ | refine Below.setCell ?_ (by first | exact Nat.le_refl _ | (simp; done) | (simp; omega) | omega) _ | assumption))⟩)
  · obtain ⟨⟨hw1, hw2⟩, ⟨hh1, hh2⟩, _⟩ := camOk_bd hk
    cases hx : inB x 0 (W * 16 - 1)
    · go_enter Try.func7, Try.ntmps7
      go_wp2_with (first | (go_at_call 13; refine (impl_IsValidCamera _ _ _ _ _ _ _ _).mono ?_; rintro e wn ⟨rfl, hbn⟩; obtain ⟨X, nX, rfl⟩ := Below.ext hbn; clear hbn) | (go_at_call 17; refine (within_c _ _ _ _).mono ?_; rintro e w' ⟨rfl, rfl⟩))
      all_goals (go_ret3; refine ⟨by simp [pixOk, pixA, hk, hx], (by repeat (first | exact Below.refl _ _ | refine Below.drew ?_ | refine Below.alloc ?_ (by first | exact Nat.le_refl _ | (simp; done) | (simp; omega) | omega) _ | refine Below.more ?_ (by first | exact Nat.le_refl _ | (simp; done) | (simp; omega) | omega) _ _ | refine Below.setCell ?_ (by first | exact Nat.le_refl _ | (simp; done) | (simp; omega) | omega) _ | assumption))⟩)
    · cases hy : inB y 0 (H * 16 - 1)
      · go_enter Try.func7, Try.ntmps7
        go_wp2_with (first | (go_at_call 13; refine (impl_IsValidCamera _ _ _ _ _ _ _ _).mono ?_; rintro e wn ⟨rfl, hbn⟩; obtain ⟨X, nX, rfl⟩ := Below.ext hbn; clear hbn) | (go_at_call 17; refine (within_c _ _ _ _).mono ?_; rintro e w' ⟨rfl, rfl⟩))
        all_goals (go_ret3; refine ⟨by simp [pixOk, pixA, hk, hx, hy], (by repeat (first | exact Below.refl _ _ | refine Below.drew ?_ | refine Below.alloc ?_ (by first | exact Nat.le_refl _ | (simp; done) | (simp; omega) | omega) _ | refine Below.more ?_ (by first | exact Nat.le_refl _ | (simp; done) | (simp; omega) | omega) _ _ | refine Below.setCell ?_ (by first | exact Nat.le_refl _ | (simp; done) | (simp; omega) | omega) _ | assumption))⟩)
      · have hx1 := (inB_true.1 hx).1
        have hy1 := (inB_true.1 hy).1
        have hx2 : x ≤ 192 := by have := (inB_true.1 hx).2; omega
        have hy2 : y ≤ 192 := by have := (inB_true.1 hy).2; omega
        go_enter Try.func7, Try.ntmps7
        go_wp2_with (first | (go_at_call 13; refine (impl_IsValidCamera _ _ _ _ _ _ _ _).mono ?_; rintro e wn ⟨rfl, hbn⟩; obtain ⟨X, nX, rfl⟩ := Below.ext hbn; clear hbn) | (go_at_call 17; refine (within_c _ _ _ _).mono ?_; rintro e w' ⟨rfl, rfl⟩))
        all_goals (go_ret3; refine ⟨by simp [pixOk, pixA, hk, hx, hy], (by repeat (first | exact Below.refl _ _ | refine Below.drew ?_ | refine Below.alloc ?_ (by first | exact Nat.le_refl _ | (simp; done) | (simp; omega) | omega) _ | refine Below.more ?_ (by first | exact Nat.le_refl _ | (simp; done) | (simp; omega) | omega) _ _ | refine Below.setCell ?_ (by first | exact Nat.le_refl _ | (simp; done) | (simp; omega) | omega) _ | assumption))⟩)
end Go.Proofs.Ytdkjiafdfenbkaa
