/- Contracts of PixelAt. -/
import Derived.Test.YtdkjiafdfenbkaaDoorCam
import Derived.Test.YtdkjiafdfenbkaaDoorNum
namespace Go.Proofs.YtdkjiafdfenbkaaDoor
open Go.RowKit
theorem camOk_bd {W H Z N L F : Int} (h : camOk W H Z N L F = true) : (1 ≤ W ∧ W ≤ 12) ∧ (1 ≤ H ∧ H ≤ 12) ∧ (1 ≤ Z ∧ Z ≤ 65536) ∧ (1 ≤ N ∧ N ≤ 1000000) ∧ (0 ≤ L ∧ L ≤ 64) ∧ (0 ≤ F ∧ F ≤ 1000000) := by
  simp only [camOk, Bool.and_eq_true, inB_true] at h
  obtain ⟨⟨⟨⟨⟨h1, h2⟩, h3⟩, h4⟩, h5⟩, h6⟩ := h
  exact ⟨h1, h2, h3, h4, h5, h6⟩
/-- Does a screen position lie in the image of a valid camera? -/
def pixOk (W H Z N L F x y : Int) : Bool := camOk W H Z N L F && inB x 0 (W * 16 - 1) && inB y 0 (H * 16 - 1)
def pixA (ok : Bool) (x : Int) : Int := if ok then x / 16 else 0
@[reducible] def pixV (ok : Bool) (x y : Int) : Value := .tuple #[.int .i64 (pixA ok x), .int .i64 (pixA ok y), .bool ok]
end Go.Proofs.YtdkjiafdfenbkaaDoor
