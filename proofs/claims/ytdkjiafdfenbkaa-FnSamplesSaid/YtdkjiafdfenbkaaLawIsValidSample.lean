/- The walk of the law FnExactIsValidSample. -/
import Derived.Test.YtdkjiafdfenbkaaPixelAt
import Derived.Test.YtdkjiafdfenbkaaOpen
namespace Go.Proofs.Ytdkjiafdfenbkaa
open Go.RowKit Go.ChangeShapes
theorem has_bd {x : Int} (h : IntKind.i64.has x) : -9223372036854775808 ≤ x ∧ x ≤ 9223372036854775807 := by
  have h' : IntKind.i64.min ≤ x ∧ x ≤ IntKind.i64.max := h
  simpa [IntKind.min, IntKind.max, IntKind.signed, IntKind.bits] using h'
@[reducible] def samV (a b c d e' : Int) : Value := .agg #[.int .i64 a, .int .i64 b, .int .i64 c, .int .i64 d, .int .i64 e']
/-- Is a sample valid for a camera? -/
def samOk (ok : Bool) (t lx ly : Int) : Bool := ok && inB t 0 15 && inB lx (-16) 16 && inB ly (-16) 16
theorem impl_IsValidSample (W H Z N : Int) (D : Bool) (L F x y t lx ly : Int) (w : World) :
    Calls Try.prog 8 #[camV W H Z N D L F, samV x y t lx ly] w fun e w' => e = .returned (.bool (samOk (pixOk W H Z N L F x y) t lx ly)) ∧ Below w.heap.size w w' := by
  go_enter Try.func8, Try.ntmps8
  go_wp2_with (first | (go_at_call 7; refine (impl_PixelAt _ _ _ _ _ _ _ _ _ _).mono ?_; rintro e wn ⟨rfl, hbn⟩; obtain ⟨X, nX, rfl⟩ := Below.ext hbn; clear hbn) | (go_at_call 17; refine (within_c _ _ _ _).mono ?_; rintro e w' ⟨rfl, rfl⟩))
  all_goals (go_ret; refine ⟨ret_bool ?_, (by repeat (first | exact Below.refl _ _ | refine Below.drew ?_ | refine Below.alloc ?_ (by first | exact Nat.le_refl _ | (simp; done) | (simp; omega) | omega) _ | refine Below.more ?_ (by first | exact Nat.le_refl _ | (simp; done) | (simp; omega) | omega) _ _ | refine Below.setCell ?_ (by first | exact Nat.le_refl _ | (simp; done) | (simp; omega) | omega) _ | assumption))⟩; simp [samOk, *])
end Go.Proofs.Ytdkjiafdfenbkaa
