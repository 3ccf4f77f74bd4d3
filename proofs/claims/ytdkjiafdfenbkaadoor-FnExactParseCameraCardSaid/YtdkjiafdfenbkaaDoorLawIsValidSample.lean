/- The walk of the law FnExactIsValidSample. -/
import Derived.Test.YtdkjiafdfenbkaaDoorPixelAt
import Derived.Test.YtdkjiafdfenbkaaDoorOpen
namespace Go.Proofs.YtdkjiafdfenbkaaDoor
open Go.RowKit Go.ChangeShapes
theorem has_bd {x : Int} (h : IntKind.i64.has x) : -9223372036854775808 ≤ x ∧ x ≤ 9223372036854775807 := by
  have h' : IntKind.i64.min ≤ x ∧ x ≤ IntKind.i64.max := h
  simpa [IntKind.min, IntKind.max, IntKind.signed, IntKind.bits] using h'
@[reducible] def samV (a b c d e' : Int) : Value := .agg #[.int .i64 a, .int .i64 b, .int .i64 c, .int .i64 d, .int .i64 e']
set_option maxRecDepth 100000 in
theorem open_sample {w : World} {r : Reach} {b : Nat} {v : Value} (hv : Value.okWide Tryd.prog w r b 23 v) :
    ∃ x y t lx ly : Int, v = samV x y t lx ly ∧ ∀ k ∈ [x, y, t, lx, ly], IntKind.i64.has k := by
  obtain ⟨l, rfl, hl, hc⟩ := open_flat (List.replicate 5 3) Tryd.underlying23 (by kernel_rfl) (by kernel_rfl) hv
  obtain ⟨ns, h1, rfl, h3⟩ := cells_ints Tryd.underlying3 5 l (by simpa using hl) hc
  obtain ⟨a, b, c, d, e, rfl⟩ := list5 h1
  exact ⟨a, b, c, d, e, rfl, h3⟩
theorem toSample_c (a b c d e' : Int) (w : World) : Calls Tryd.prog 11 #[samV a b c d e'] w fun e w' => e = .returned (samV a b c d e') ∧ Below w.heap.size w w' := by
  go_enter Tryd.func11, Tryd.ntmps11
  go_wp2
  go_returns
  exact ⟨rfl, (by repeat (first | exact Below.refl _ _ | refine Below.drew ?_ | refine Below.alloc ?_ (by first | exact Nat.le_refl _ | (simp; done) | (simp; omega) | omega) _ | refine Below.more ?_ (by first | exact Nat.le_refl _ | (simp; done) | (simp; omega) | omega) _ _ | refine Below.setCell ?_ (by first | exact Nat.le_refl _ | (simp; done) | (simp; omega) | omega) _ | assumption))⟩
/-- Is a sample valid for a camera? -/
def samOk (ok : Bool) (t lx ly : Int) : Bool := ok && inB t 0 15 && inB lx (-16) 16 && inB ly (-16) 16
end Go.Proofs.YtdkjiafdfenbkaaDoor
