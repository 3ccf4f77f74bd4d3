/- Contracts of Lerp. -/
import Derived.Test.YtdkjiafdfenbkaaDoorVec
import Derived.Test.YtdkjiafdfenbkaaDoorMath2
import Derived.Test.YtdkjiafdfenbkaaDoorLt
import Derived.IntWalk
namespace Go.Proofs.YtdkjiafdfenbkaaDoor
open Go.RowKit
theorem cc_bd (x : Int) : -1000000 ≤ cc x ∧ cc x ≤ 1000000 := clamp_bd (by omega)
/-- Are n and i those of an interpolation? -/
def lerpOk (i n : Int) : Bool := inB n 1 4096 && inB i 0 n
/-- One part, interpolated. -/
def lerpI (x y i n : Int) : Int := if lerpOk i n then fdivI ((n - i) * cc x + i * cc y) n else cc x
structure LerpBd (x y i n : Int) : Prop where
  a : In64 ((n - i) * cc x)
  b : In64 (i * cc y)
  c : In64 ((n - i) * cc x + i * cc y)
  d : -4096000000 ≤ (n - i) * cc x ∧ (n - i) * cc x ≤ 4096000000
  e : -4096000000 ≤ i * cc y ∧ i * cc y ≤ 4096000000
theorem lerpBd {i n : Int} (h : lerpOk i n = true) (x y : Int) : LerpBd x y i n := by
  simp only [lerpOk, Bool.and_eq_true, inB_true] at h
  have h1 := mul_bd (x := n - i) (y := cc x) (a := 4096) (b := 1000000) (by omega) (by have := cc_bd x; omega)
  have h2 := mul_bd (x := i) (y := cc y) (a := 4096) (b := 1000000) (by omega) (by have := cc_bd y; omega)
  refine ⟨⟨by omega, by omega⟩, ⟨by omega, by omega⟩, ⟨by omega, by omega⟩, by omega, by omega⟩
@[reducible] def lerpV (x y z x2 y2 z2 i n : Int) : Value := .agg #[.int .i64 (lerpI x x2 i n), .int .i64 (lerpI y y2 i n), .int .i64 (lerpI z z2 i n)]
end Go.Proofs.YtdkjiafdfenbkaaDoor
