/- Box2, with Math2, Lerp, Interp, Lt2, Bound ahead of it. -/
import Derived.Test.YtpfmcobkfofbjaaMath
import Derived.Test.YtpfmcobkfofbjaaEdges
import Derived.Test.YtpfmcobkfofbjaaLt
import Derived.IntWalk
import Derived.Test.YtpfmcobkfofbjaaOpen
import Derived.Test.YtpfmcobkfofbjaaSVec
import Derived.Test.YtpfmcobkfofbjaaSl
import Derived.Test.YtpfmcobkfofbjaaStage3
import Derived.Test.YtpfmcobkfofbjaaBox
namespace Go.Proofs.Ytpfmcobkfofbjaa
open Go.RowKit
theorem mul_bd2 {x y : Int} {a b : Nat} (hx : -(a : Int) ≤ x ∧ x ≤ a) (hy : -(b : Int) ≤ y ∧ y ≤ b) : -((a * b : Nat) : Int) ≤ x * y ∧ x * y ≤ ((a * b : Nat) : Int) := by
  have h := Int.natAbs_mul x y
  have h1 : x.natAbs ≤ a := by omega
  have h2 : y.natAbs ≤ b := by omega
  have h3 := Nat.mul_le_mul h1 h2
  omega
theorem fdiv_bd {a b : Int} {m : Nat} (h : -(m : Int) ≤ a ∧ a ≤ m) : -(m : Int) ≤ fdivI a b ∧ fdivI a b ≤ m := by
  unfold fdivI
  split
  · omega
  · have h1 : b * (a / b) ≤ a := Int.mul_ediv_self_le (by omega)
    have h2 : a < b * (a / b) + b := Int.lt_mul_ediv_self_add (by omega)
    generalize a / b = q at *
    constructor
    · by_cases hq : 0 ≤ q
      · omega
      · have h3 : b * (q + 1) ≤ 1 * (q + 1) := Int.mul_le_mul_of_nonpos_right (by omega) (by omega)
        rw [Int.mul_add] at h3
        omega
    · by_cases hq : 0 ≤ q
      · have h3 : 1 * q ≤ b * q := Int.mul_le_mul_of_nonneg_right (by omega) (by omega)
        omega
      · omega
end Go.Proofs.Ytpfmcobkfofbjaa
namespace Go.Proofs.Ytpfmcobkfofbjaa
open Go.RowKit
theorem cc_bd (x : Int) : -1000000 ≤ cc x ∧ cc x ≤ 1000000 := clamp_bd (by omega)
/-- Are n and i those of an interpolation? -/
def lerpOk (i n : Int) : Bool := inB n 1 4096 && inB i 0 n
/-- One part, interpolated. -/
def lerpI (x y i n : Int) : Int := if lerpOk i n then fdivI ((n - i) * cc x + i * cc y) n else cc x
structure LerpBd (x y i n : Int) : Prop where
  a : In64 ((n - i) * cc x)
  b : In64 (i * cc y)
  c : In64 ((n - i) * cc x + i * cc y)
  d : -4096000000 ≤ (n - i) * cc x ∧ (n - i) * cc x ≤ 4096000000
  e : -4096000000 ≤ i * cc y ∧ i * cc y ≤ 4096000000
theorem lerpBd {i n : Int} (h : lerpOk i n = true) (x y : Int) : LerpBd x y i n := by
  simp only [lerpOk, Bool.and_eq_true, inB_true] at h
  have h1 := mul_bd2 (x := n - i) (y := cc x) (a := 4096) (b := 1000000) (by omega) (by have := cc_bd x; omega)
  have h2 := mul_bd2 (x := i) (y := cc y) (a := 4096) (b := 1000000) (by omega) (by have := cc_bd y; omega)
  refine ⟨⟨by omega, by omega⟩, ⟨by omega, by omega⟩, ⟨by omega, by omega⟩, by omega, by omega⟩
@[reducible] def lerpV (x y z x2 y2 z2 i n : Int) : Value := .agg #[.int .i64 (lerpI x x2 i n), .int .i64 (lerpI y y2 i n), .int .i64 (lerpI z z2 i n)]
end Go.Proofs.Ytpfmcobkfofbjaa
namespace Go.Proofs.Ytpfmcobkfofbjaa
open Go.RowKit
@[reducible] def patV (a b c d e' f g h i j k l : Int) : Value := .agg #[.int .i64 a, .int .i64 b, .int .i64 c, .int .i64 d, .int .i64 e', .int .i64 f, .int .i64 g, .int .i64 h, .int .i64 i, .int .i64 j, .int .i64 k, .int .i64 l]
/-- One part of a patch, interpolated. -/
def ipI (x y i : Int) : Int := if inB i 0 16 then lerpI x y i 16 else x
@[go_sem] theorem ipl_0 (a x y : Nat) : a < a + 1 + 1 + 1 + x + y := by omega
@[go_sem] theorem ipl_1 (a x y : Nat) : a < a + 1 + 1 + 1 + x + y + 1 := by omega
@[go_sem] theorem ipl_2 (a x y z : Nat) : a < a + 1 + 1 + 1 + x + y + z := by omega
@[go_sem] theorem ipl_3 (a x y z : Nat) : a < a + 1 + 1 + 1 + x + y + z + 1 := by omega
@[go_sem] theorem ipl_4 (a x y z u : Nat) : a < a + 1 + 1 + 1 + x + y + z + u := by omega
@[go_sem] theorem ipl_5 (a x y z u : Nat) : a < a + 1 + 1 + 1 + x + y + z + u + 1 := by omega
@[go_sem] theorem ipl_6 (a x y : Nat) : a < a + 1 + 1 + 1 + x + 1 + y := by omega
@[go_sem] theorem ipl_7 (a x y : Nat) : a < a + 1 + 1 + 1 + x + 1 + y + 1 := by omega
@[go_sem] theorem ipl_8 (a x y z : Nat) : a < a + 1 + 1 + 1 + x + 1 + y + 1 + z := by omega
@[go_sem] theorem ipl_9 (a x y z : Nat) : a < a + 1 + 1 + 1 + x + 1 + y + 1 + z + 1 := by omega
@[go_sem] theorem ipl_10 (a x y z u : Nat) : a < a + 1 + 1 + 1 + x + 1 + y + 1 + z + 1 + u := by omega
@[go_sem] theorem ipl_11 (a x y z u : Nat) : a < a + 1 + 1 + 1 + x + 1 + y + 1 + z + 1 + u + 1 := by omega
@[go_sem] theorem ipl_12 (a x y : Nat) : a < a + 1 + 1 + 1 + 1 + x + y := by omega
@[go_sem] theorem ipl_13 (a x y : Nat) : a < a + 1 + 1 + 1 + 1 + x + y + 1 := by omega
@[go_sem] theorem ipl_14 (a x y z : Nat) : a < a + 1 + 1 + 1 + 1 + x + y + z := by omega
@[go_sem] theorem ipl_15 (a x y z : Nat) : a < a + 1 + 1 + 1 + 1 + x + y + z + 1 := by omega
@[go_sem] theorem ipl_16 (a x y z u : Nat) : a < a + 1 + 1 + 1 + 1 + x + y + z + u := by omega
@[go_sem] theorem ipl_17 (a x y z u : Nat) : a < a + 1 + 1 + 1 + 1 + x + y + z + u + 1 := by omega
@[go_sem] theorem ipl_18 (a x y : Nat) : a < a + 1 + 1 + 1 + 1 + x + 1 + y := by omega
@[go_sem] theorem ipl_19 (a x y : Nat) : a < a + 1 + 1 + 1 + 1 + x + 1 + y + 1 := by omega
@[go_sem] theorem ipl_20 (a x y z : Nat) : a < a + 1 + 1 + 1 + 1 + x + 1 + y + 1 + z := by omega
@[go_sem] theorem ipl_21 (a x y z : Nat) : a < a + 1 + 1 + 1 + 1 + x + 1 + y + 1 + z + 1 := by omega
@[go_sem] theorem ipl_22 (a x y z u : Nat) : a < a + 1 + 1 + 1 + 1 + x + 1 + y + 1 + z + 1 + u := by omega
@[go_sem] theorem ipl_23 (a x y z u : Nat) : a < a + 1 + 1 + 1 + 1 + x + 1 + y + 1 + z + 1 + u + 1 := by omega
@[go_sem] theorem ipl_24 (a x y : Nat) : a + 1 < a + 1 + 1 + 1 + x + y := by omega
@[go_sem] theorem ipl_25 (a x y : Nat) : a + 1 < a + 1 + 1 + 1 + x + y + 1 := by omega
@[go_sem] theorem ipl_26 (a x y z : Nat) : a + 1 < a + 1 + 1 + 1 + x + y + z := by omega
@[go_sem] theorem ipl_27 (a x y z : Nat) : a + 1 < a + 1 + 1 + 1 + x + y + z + 1 := by omega
@[go_sem] theorem ipl_28 (a x y z u : Nat) : a + 1 < a + 1 + 1 + 1 + x + y + z + u := by omega
@[go_sem] theorem ipl_29 (a x y z u : Nat) : a + 1 < a + 1 + 1 + 1 + x + y + z + u + 1 := by omega
@[go_sem] theorem ipl_30 (a x y : Nat) : a + 1 < a + 1 + 1 + 1 + x + 1 + y := by omega
@[go_sem] theorem ipl_31 (a x y : Nat) : a + 1 < a + 1 + 1 + 1 + x + 1 + y + 1 := by omega
@[go_sem] theorem ipl_32 (a x y z : Nat) : a + 1 < a + 1 + 1 + 1 + x + 1 + y + 1 + z := by omega
@[go_sem] theorem ipl_33 (a x y z : Nat) : a + 1 < a + 1 + 1 + 1 + x + 1 + y + 1 + z + 1 := by omega
@[go_sem] theorem ipl_34 (a x y z u : Nat) : a + 1 < a + 1 + 1 + 1 + x + 1 + y + 1 + z + 1 + u := by omega
@[go_sem] theorem ipl_35 (a x y z u : Nat) : a + 1 < a + 1 + 1 + 1 + x + 1 + y + 1 + z + 1 + u + 1 := by omega
@[go_sem] theorem ipl_36 (a x y : Nat) : a + 1 < a + 1 + 1 + 1 + 1 + x + y := by omega
@[go_sem] theorem ipl_37 (a x y : Nat) : a + 1 < a + 1 + 1 + 1 + 1 + x + y + 1 := by omega
@[go_sem] theorem ipl_38 (a x y z : Nat) : a + 1 < a + 1 + 1 + 1 + 1 + x + y + z := by omega
@[go_sem] theorem ipl_39 (a x y z : Nat) : a + 1 < a + 1 + 1 + 1 + 1 + x + y + z + 1 := by omega
@[go_sem] theorem ipl_40 (a x y z u : Nat) : a + 1 < a + 1 + 1 + 1 + 1 + x + y + z + u := by omega
@[go_sem] theorem ipl_41 (a x y z u : Nat) : a + 1 < a + 1 + 1 + 1 + 1 + x + y + z + u + 1 := by omega
@[go_sem] theorem ipl_42 (a x y : Nat) : a + 1 < a + 1 + 1 + 1 + 1 + x + 1 + y := by omega
@[go_sem] theorem ipl_43 (a x y : Nat) : a + 1 < a + 1 + 1 + 1 + 1 + x + 1 + y + 1 := by omega
@[go_sem] theorem ipl_44 (a x y z : Nat) : a + 1 < a + 1 + 1 + 1 + 1 + x + 1 + y + 1 + z := by omega
@[go_sem] theorem ipl_45 (a x y z : Nat) : a + 1 < a + 1 + 1 + 1 + 1 + x + 1 + y + 1 + z + 1 := by omega
@[go_sem] theorem ipl_46 (a x y z u : Nat) : a + 1 < a + 1 + 1 + 1 + 1 + x + 1 + y + 1 + z + 1 + u := by omega
@[go_sem] theorem ipl_47 (a x y z u : Nat) : a + 1 < a + 1 + 1 + 1 + 1 + x + 1 + y + 1 + z + 1 + u + 1 := by omega
@[go_sem] theorem ipl_48 (a x y : Nat) : a + 1 + 1 < a + 1 + 1 + 1 + x + y := by omega
@[go_sem] theorem ipl_49 (a x y : Nat) : a + 1 + 1 < a + 1 + 1 + 1 + x + y + 1 := by omega
@[go_sem] theorem ipl_50 (a x y z : Nat) : a + 1 + 1 < a + 1 + 1 + 1 + x + y + z := by omega
@[go_sem] theorem ipl_51 (a x y z : Nat) : a + 1 + 1 < a + 1 + 1 + 1 + x + y + z + 1 := by omega
@[go_sem] theorem ipl_52 (a x y z u : Nat) : a + 1 + 1 < a + 1 + 1 + 1 + x + y + z + u := by omega
@[go_sem] theorem ipl_53 (a x y z u : Nat) : a + 1 + 1 < a + 1 + 1 + 1 + x + y + z + u + 1 := by omega
@[go_sem] theorem ipl_54 (a x y : Nat) : a + 1 + 1 < a + 1 + 1 + 1 + x + 1 + y := by omega
@[go_sem] theorem ipl_55 (a x y : Nat) : a + 1 + 1 < a + 1 + 1 + 1 + x + 1 + y + 1 := by omega
@[go_sem] theorem ipl_56 (a x y z : Nat) : a + 1 + 1 < a + 1 + 1 + 1 + x + 1 + y + 1 + z := by omega
@[go_sem] theorem ipl_57 (a x y z : Nat) : a + 1 + 1 < a + 1 + 1 + 1 + x + 1 + y + 1 + z + 1 := by omega
@[go_sem] theorem ipl_58 (a x y z u : Nat) : a + 1 + 1 < a + 1 + 1 + 1 + x + 1 + y + 1 + z + 1 + u := by omega
@[go_sem] theorem ipl_59 (a x y z u : Nat) : a + 1 + 1 < a + 1 + 1 + 1 + x + 1 + y + 1 + z + 1 + u + 1 := by omega
@[go_sem] theorem ipl_60 (a x y : Nat) : a + 1 + 1 < a + 1 + 1 + 1 + 1 + x + y := by omega
@[go_sem] theorem ipl_61 (a x y : Nat) : a + 1 + 1 < a + 1 + 1 + 1 + 1 + x + y + 1 := by omega
@[go_sem] theorem ipl_62 (a x y z : Nat) : a + 1 + 1 < a + 1 + 1 + 1 + 1 + x + y + z := by omega
@[go_sem] theorem ipl_63 (a x y z : Nat) : a + 1 + 1 < a + 1 + 1 + 1 + 1 + x + y + z + 1 := by omega
@[go_sem] theorem ipl_64 (a x y z u : Nat) : a + 1 + 1 < a + 1 + 1 + 1 + 1 + x + y + z + u := by omega
@[go_sem] theorem ipl_65 (a x y z u : Nat) : a + 1 + 1 < a + 1 + 1 + 1 + 1 + x + y + z + u + 1 := by omega
@[go_sem] theorem ipl_66 (a x y : Nat) : a + 1 + 1 < a + 1 + 1 + 1 + 1 + x + 1 + y := by omega
@[go_sem] theorem ipl_67 (a x y : Nat) : a + 1 + 1 < a + 1 + 1 + 1 + 1 + x + 1 + y + 1 := by omega
@[go_sem] theorem ipl_68 (a x y z : Nat) : a + 1 + 1 < a + 1 + 1 + 1 + 1 + x + 1 + y + 1 + z := by omega
@[go_sem] theorem ipl_69 (a x y z : Nat) : a + 1 + 1 < a + 1 + 1 + 1 + 1 + x + 1 + y + 1 + z + 1 := by omega
@[go_sem] theorem ipl_70 (a x y z u : Nat) : a + 1 + 1 < a + 1 + 1 + 1 + 1 + x + 1 + y + 1 + z + 1 + u := by omega
@[go_sem] theorem ipl_71 (a x y z u : Nat) : a + 1 + 1 < a + 1 + 1 + 1 + 1 + x + 1 + y + 1 + z + 1 + u + 1 := by omega
@[go_sem] theorem ipl_72 (a x y : Nat) : a + 1 + 1 + 1 < a + 1 + 1 + 1 + 1 + x + y := by omega
@[go_sem] theorem ipl_73 (a x y : Nat) : a + 1 + 1 + 1 < a + 1 + 1 + 1 + 1 + x + y + 1 := by omega
@[go_sem] theorem ipl_74 (a x y z : Nat) : a + 1 + 1 + 1 < a + 1 + 1 + 1 + 1 + x + y + z := by omega
@[go_sem] theorem ipl_75 (a x y z : Nat) : a + 1 + 1 + 1 < a + 1 + 1 + 1 + 1 + x + y + z + 1 := by omega
@[go_sem] theorem ipl_76 (a x y z u : Nat) : a + 1 + 1 + 1 < a + 1 + 1 + 1 + 1 + x + y + z + u := by omega
@[go_sem] theorem ipl_77 (a x y z u : Nat) : a + 1 + 1 + 1 < a + 1 + 1 + 1 + 1 + x + y + z + u + 1 := by omega
@[go_sem] theorem ipl_78 (a x y : Nat) : a + 1 + 1 + 1 < a + 1 + 1 + 1 + 1 + x + 1 + y := by omega
@[go_sem] theorem ipl_79 (a x y : Nat) : a + 1 + 1 + 1 < a + 1 + 1 + 1 + 1 + x + 1 + y + 1 := by omega
@[go_sem] theorem ipl_80 (a x y z : Nat) : a + 1 + 1 + 1 < a + 1 + 1 + 1 + 1 + x + 1 + y + 1 + z := by omega
@[go_sem] theorem ipl_81 (a x y z : Nat) : a + 1 + 1 + 1 < a + 1 + 1 + 1 + 1 + x + 1 + y + 1 + z + 1 := by omega
@[go_sem] theorem ipl_82 (a x y z u : Nat) : a + 1 + 1 + 1 < a + 1 + 1 + 1 + 1 + x + 1 + y + 1 + z + 1 + u := by omega
@[go_sem] theorem ipl_83 (a x y z u : Nat) : a + 1 + 1 + 1 < a + 1 + 1 + 1 + 1 + x + 1 + y + 1 + z + 1 + u + 1 := by omega
end Go.Proofs.Ytpfmcobkfofbjaa
namespace Go.Proofs.Ytpfmcobkfofbjaa
open Go.RowKit
@[go_sem] theorem lc_0 (a x y : Nat) : a < a + 1 + x + 1 + y := by omega
@[go_sem] theorem lc_1 (a x y : Nat) : a < a + 1 + x + 1 + y + 1 := by omega
@[go_sem] theorem lc_2 (a x y : Nat) : a < a + 1 + x + 1 + y + 1 + 1 := by omega
@[go_sem] theorem lc_3 (a x y z : Nat) : a < a + 1 + x + 1 + y + 1 + z := by omega
@[go_sem] theorem lc_4 (a x y z : Nat) : a < a + 1 + x + 1 + y + 1 + z + 1 := by omega
@[go_sem] theorem lc_5 (a x y z : Nat) : a < a + 1 + x + 1 + y + 1 + z + 1 + 1 := by omega
@[go_sem] theorem lc_6 (a x y z u : Nat) : a < a + 1 + x + 1 + y + 1 + z + 1 + u := by omega
@[go_sem] theorem lc_7 (a x y z u : Nat) : a < a + 1 + x + 1 + y + 1 + z + 1 + u + 1 := by omega
@[go_sem] theorem lc_8 (a x y z u : Nat) : a < a + 1 + x + 1 + y + 1 + z + 1 + u + 1 + 1 := by omega
@[go_sem] theorem lc_9 (a x y z u v : Nat) : a < a + 1 + x + 1 + y + 1 + z + 1 + u + 1 + v := by omega
@[go_sem] theorem lc_10 (a x y z u v : Nat) : a < a + 1 + x + 1 + y + 1 + z + 1 + u + 1 + v + 1 := by omega
@[go_sem] theorem lc_11 (a x y z u v : Nat) : a < a + 1 + x + 1 + y + 1 + z + 1 + u + 1 + v + 1 + 1 := by omega
@[go_sem] theorem lc_12 (a x y : Nat) : a < a + 1 + 1 + x + 1 + y := by omega
@[go_sem] theorem lc_13 (a x y : Nat) : a < a + 1 + 1 + x + 1 + y + 1 := by omega
@[go_sem] theorem lc_14 (a x y : Nat) : a < a + 1 + 1 + x + 1 + y + 1 + 1 := by omega
@[go_sem] theorem lc_15 (a x y z : Nat) : a < a + 1 + 1 + x + 1 + y + 1 + z := by omega
@[go_sem] theorem lc_16 (a x y z : Nat) : a < a + 1 + 1 + x + 1 + y + 1 + z + 1 := by omega
@[go_sem] theorem lc_17 (a x y z : Nat) : a < a + 1 + 1 + x + 1 + y + 1 + z + 1 + 1 := by omega
@[go_sem] theorem lc_18 (a x y z u : Nat) : a < a + 1 + 1 + x + 1 + y + 1 + z + 1 + u := by omega
@[go_sem] theorem lc_19 (a x y z u : Nat) : a < a + 1 + 1 + x + 1 + y + 1 + z + 1 + u + 1 := by omega
@[go_sem] theorem lc_20 (a x y z u : Nat) : a < a + 1 + 1 + x + 1 + y + 1 + z + 1 + u + 1 + 1 := by omega
@[go_sem] theorem lc_21 (a x y z u v : Nat) : a < a + 1 + 1 + x + 1 + y + 1 + z + 1 + u + 1 + v := by omega
@[go_sem] theorem lc_22 (a x y z u v : Nat) : a < a + 1 + 1 + x + 1 + y + 1 + z + 1 + u + 1 + v + 1 := by omega
@[go_sem] theorem lc_23 (a x y z u v : Nat) : a < a + 1 + 1 + x + 1 + y + 1 + z + 1 + u + 1 + v + 1 + 1 := by omega
@[go_sem] theorem lc_24 (a x y : Nat) : a < a + 1 + 1 + 1 + x + 1 + y := by omega
@[go_sem] theorem lc_25 (a x y : Nat) : a < a + 1 + 1 + 1 + x + 1 + y + 1 := by omega
@[go_sem] theorem lc_26 (a x y : Nat) : a < a + 1 + 1 + 1 + x + 1 + y + 1 + 1 := by omega
@[go_sem] theorem lc_27 (a x y z : Nat) : a < a + 1 + 1 + 1 + x + 1 + y + 1 + z := by omega
@[go_sem] theorem lc_28 (a x y z : Nat) : a < a + 1 + 1 + 1 + x + 1 + y + 1 + z + 1 := by omega
@[go_sem] theorem lc_29 (a x y z : Nat) : a < a + 1 + 1 + 1 + x + 1 + y + 1 + z + 1 + 1 := by omega
@[go_sem] theorem lc_30 (a x y z u : Nat) : a < a + 1 + 1 + 1 + x + 1 + y + 1 + z + 1 + u := by omega
@[go_sem] theorem lc_31 (a x y z u : Nat) : a < a + 1 + 1 + 1 + x + 1 + y + 1 + z + 1 + u + 1 := by omega
@[go_sem] theorem lc_32 (a x y z u : Nat) : a < a + 1 + 1 + 1 + x + 1 + y + 1 + z + 1 + u + 1 + 1 := by omega
@[go_sem] theorem lc_33 (a x y z u v : Nat) : a < a + 1 + 1 + 1 + x + 1 + y + 1 + z + 1 + u + 1 + v := by omega
@[go_sem] theorem lc_34 (a x y z u v : Nat) : a < a + 1 + 1 + 1 + x + 1 + y + 1 + z + 1 + u + 1 + v + 1 := by omega
@[go_sem] theorem lc_35 (a x y z u v : Nat) : a < a + 1 + 1 + 1 + x + 1 + y + 1 + z + 1 + u + 1 + v + 1 + 1 := by omega
@[go_sem] theorem lc_36 (a x y : Nat) : a + 1 < a + 1 + 1 + x + 1 + y := by omega
@[go_sem] theorem lc_37 (a x y : Nat) : a + 1 < a + 1 + 1 + x + 1 + y + 1 := by omega
@[go_sem] theorem lc_38 (a x y : Nat) : a + 1 < a + 1 + 1 + x + 1 + y + 1 + 1 := by omega
@[go_sem] theorem lc_39 (a x y z : Nat) : a + 1 < a + 1 + 1 + x + 1 + y + 1 + z := by omega
@[go_sem] theorem lc_40 (a x y z : Nat) : a + 1 < a + 1 + 1 + x + 1 + y + 1 + z + 1 := by omega
@[go_sem] theorem lc_41 (a x y z : Nat) : a + 1 < a + 1 + 1 + x + 1 + y + 1 + z + 1 + 1 := by omega
@[go_sem] theorem lc_42 (a x y z u : Nat) : a + 1 < a + 1 + 1 + x + 1 + y + 1 + z + 1 + u := by omega
@[go_sem] theorem lc_43 (a x y z u : Nat) : a + 1 < a + 1 + 1 + x + 1 + y + 1 + z + 1 + u + 1 := by omega
@[go_sem] theorem lc_44 (a x y z u : Nat) : a + 1 < a + 1 + 1 + x + 1 + y + 1 + z + 1 + u + 1 + 1 := by omega
@[go_sem] theorem lc_45 (a x y z u v : Nat) : a + 1 < a + 1 + 1 + x + 1 + y + 1 + z + 1 + u + 1 + v := by omega
@[go_sem] theorem lc_46 (a x y z u v : Nat) : a + 1 < a + 1 + 1 + x + 1 + y + 1 + z + 1 + u + 1 + v + 1 := by omega
@[go_sem] theorem lc_47 (a x y z u v : Nat) : a + 1 < a + 1 + 1 + x + 1 + y + 1 + z + 1 + u + 1 + v + 1 + 1 := by omega
@[go_sem] theorem lc_48 (a x y : Nat) : a + 1 < a + 1 + 1 + 1 + x + 1 + y := by omega
@[go_sem] theorem lc_49 (a x y : Nat) : a + 1 < a + 1 + 1 + 1 + x + 1 + y + 1 := by omega
@[go_sem] theorem lc_50 (a x y : Nat) : a + 1 < a + 1 + 1 + 1 + x + 1 + y + 1 + 1 := by omega
@[go_sem] theorem lc_51 (a x y z : Nat) : a + 1 < a + 1 + 1 + 1 + x + 1 + y + 1 + z := by omega
@[go_sem] theorem lc_52 (a x y z : Nat) : a + 1 < a + 1 + 1 + 1 + x + 1 + y + 1 + z + 1 := by omega
@[go_sem] theorem lc_53 (a x y z : Nat) : a + 1 < a + 1 + 1 + 1 + x + 1 + y + 1 + z + 1 + 1 := by omega
@[go_sem] theorem lc_54 (a x y z u : Nat) : a + 1 < a + 1 + 1 + 1 + x + 1 + y + 1 + z + 1 + u := by omega
@[go_sem] theorem lc_55 (a x y z u : Nat) : a + 1 < a + 1 + 1 + 1 + x + 1 + y + 1 + z + 1 + u + 1 := by omega
@[go_sem] theorem lc_56 (a x y z u : Nat) : a + 1 < a + 1 + 1 + 1 + x + 1 + y + 1 + z + 1 + u + 1 + 1 := by omega
@[go_sem] theorem lc_57 (a x y z u v : Nat) : a + 1 < a + 1 + 1 + 1 + x + 1 + y + 1 + z + 1 + u + 1 + v := by omega
@[go_sem] theorem lc_58 (a x y z u v : Nat) : a + 1 < a + 1 + 1 + 1 + x + 1 + y + 1 + z + 1 + u + 1 + v + 1 := by omega
@[go_sem] theorem lc_59 (a x y z u v : Nat) : a + 1 < a + 1 + 1 + 1 + x + 1 + y + 1 + z + 1 + u + 1 + v + 1 + 1 := by omega
@[go_sem] theorem lc_60 (a x y : Nat) : a + 1 + 1 < a + 1 + 1 + 1 + x + 1 + y := by omega
@[go_sem] theorem lc_61 (a x y : Nat) : a + 1 + 1 < a + 1 + 1 + 1 + x + 1 + y + 1 := by omega
@[go_sem] theorem lc_62 (a x y : Nat) : a + 1 + 1 < a + 1 + 1 + 1 + x + 1 + y + 1 + 1 := by omega
@[go_sem] theorem lc_63 (a x y z : Nat) : a + 1 + 1 < a + 1 + 1 + 1 + x + 1 + y + 1 + z := by omega
@[go_sem] theorem lc_64 (a x y z : Nat) : a + 1 + 1 < a + 1 + 1 + 1 + x + 1 + y + 1 + z + 1 := by omega
@[go_sem] theorem lc_65 (a x y z : Nat) : a + 1 + 1 < a + 1 + 1 + 1 + x + 1 + y + 1 + z + 1 + 1 := by omega
@[go_sem] theorem lc_66 (a x y z u : Nat) : a + 1 + 1 < a + 1 + 1 + 1 + x + 1 + y + 1 + z + 1 + u := by omega
@[go_sem] theorem lc_67 (a x y z u : Nat) : a + 1 + 1 < a + 1 + 1 + 1 + x + 1 + y + 1 + z + 1 + u + 1 := by omega
@[go_sem] theorem lc_68 (a x y z u : Nat) : a + 1 + 1 < a + 1 + 1 + 1 + x + 1 + y + 1 + z + 1 + u + 1 + 1 := by omega
@[go_sem] theorem lc_69 (a x y z u v : Nat) : a + 1 + 1 < a + 1 + 1 + 1 + x + 1 + y + 1 + z + 1 + u + 1 + v := by omega
@[go_sem] theorem lc_70 (a x y z u v : Nat) : a + 1 + 1 < a + 1 + 1 + 1 + x + 1 + y + 1 + z + 1 + u + 1 + v + 1 := by omega
@[go_sem] theorem lc_71 (a x y z u v : Nat) : a + 1 + 1 < a + 1 + 1 + 1 + x + 1 + y + 1 + z + 1 + u + 1 + v + 1 + 1 := by omega
end Go.Proofs.Ytpfmcobkfofbjaa
namespace Go.Proofs.Ytpfmcobkfofbjaa
open Go Go.RowKit
@[reducible] def boxV (x0 y0 z0 x1 y1 z1 : Int) : Value := .agg #[.int .i64 x0, .int .i64 y0, .int .i64 z0, .int .i64 x1, .int .i64 y1, .int .i64 z1]
/-- A point lies in a box. -/
structure InBox (x0 y0 z0 x1 y1 z1 : Int) (p : VecD) : Prop where
  a : x0 ≤ p.f0 ∧ p.f0 ≤ x1
  b : y0 ≤ p.f1 ∧ p.f1 ≤ y1
  c : z0 ≤ p.f2 ∧ p.f2 ≤ z1
structure VOk (p : VecD) : Prop where
  a : -1000000 ≤ p.f0 ∧ p.f0 ≤ 1000000
  b : -1000000 ≤ p.f1 ∧ p.f1 ≤ 1000000
  c : -1000000 ≤ p.f2 ∧ p.f2 ≤ 1000000
theorem cc_id {x : Int} (h : -1000000 ≤ x ∧ x ≤ 1000000) : cc x = x := clamp_in h.1 h.2
theorem min1_c (x y : Int) (w : World) : Calls Try.prog 40 #[.int .i64 x, .int .i64 y] w fun e w' => e = .returned (.int .i64 (min x y)) ∧ w' = w := by
  go_enter Try.func40, Try.ntmps40
  go_wp2
  all_goals (go_ret; exact ⟨ret_int (by omega), rfl⟩)
theorem max1_c (x y : Int) (w : World) : Calls Try.prog 41 #[.int .i64 x, .int .i64 y] w fun e w' => e = .returned (.int .i64 (max x y)) ∧ w' = w := by
  go_enter Try.func41, Try.ntmps41
  go_wp2
  all_goals (go_ret; exact ⟨ret_int (by omega), rfl⟩)
set_option maxRecDepth 100000 in
theorem impl_MinVec (x y z x2 y2 z2 : Int) (w : World) :
    Calls Try.prog 18 #[vecV x y z, vecV x2 y2 z2] w fun e w' => e = .returned (vecV (min (cc x) (cc x2)) (min (cc y) (cc y2)) (min (cc z) (cc z2))) ∧ Below w.heap.size w w' := by
  go_enter Try.func18, Try.ntmps18
  go_wp2
  ((first | refine region_qt2 5 (by kernel_rfl) (by kernel_rfl) ?_ | refine region_qt 5 (by kernel_rfl) (by kernel_rfl) ?_); simp only [List.take_succ_cons, List.take_zero, List.drop_succ_cons, List.drop_zero])
  repeat (quiet_step (fail))
  (refine wpQuiet_step (fun K hK => ?_); go_simp; refine ⟨_, fun zt => ext_below (impl_clamped _ _ _ _), hK _ ?_⟩; clear hK K)
  repeat (quiet_step (fail))
  (refine wpQuiet_step (fun K hK => ?_); go_simp; refine ⟨_, fun zt => ext_below (impl_clamped _ _ _ _), hK _ ?_⟩; clear hK K)
  repeat (quiet_step (fail))
  (refine wpQuiet_step (fun K hK => ?_); go_simp; refine ⟨_, fun zt => ext_below (impl_with 40 _ _ _ _ _ _ _ _ _ _ (fun _ _ _ => by kernel_rfl) (fun W _ => min1_c _ _ W) (fun W _ => min1_c _ _ W) (fun W _ => min1_c _ _ W)), hK _ ?_⟩; clear hK K)
  repeat (quiet_step (fail))
  (refine wpQuiet_nil ?_; intro X nX)
  go_wp2
  exact bodyPost_ret (v := vecV (min (cc x) (cc x2)) (min (cc y) (cc y2)) (min (cc z) (cc z2))) (by simp [results, Try.results18, go_sem]) rfl ⟨rfl, (by repeat (first | exact Below.refl _ _ | refine Below.drew ?_ | refine Below.alloc ?_ (by first | exact Nat.le_refl _ | (simp; done) | (simp; omega) | omega) _ | refine Below.more ?_ (by first | exact Nat.le_refl _ | (simp; done) | (simp; omega) | omega) _ _ | refine Below.setCell ?_ (by first | exact Nat.le_refl _ | (simp; done) | (simp; omega) | omega) _ | assumption))⟩
set_option maxRecDepth 100000 in
theorem impl_MaxVec (x y z x2 y2 z2 : Int) (w : World) :
    Calls Try.prog 19 #[vecV x y z, vecV x2 y2 z2] w fun e w' => e = .returned (vecV (max (cc x) (cc x2)) (max (cc y) (cc y2)) (max (cc z) (cc z2))) ∧ Below w.heap.size w w' := by
  go_enter Try.func19, Try.ntmps19
  go_wp2
  ((first | refine region_qt2 5 (by kernel_rfl) (by kernel_rfl) ?_ | refine region_qt 5 (by kernel_rfl) (by kernel_rfl) ?_); simp only [List.take_succ_cons, List.take_zero, List.drop_succ_cons, List.drop_zero])
  repeat (quiet_step (fail))
  (refine wpQuiet_step (fun K hK => ?_); go_simp; refine ⟨_, fun zt => ext_below (impl_clamped _ _ _ _), hK _ ?_⟩; clear hK K)
  repeat (quiet_step (fail))
  (refine wpQuiet_step (fun K hK => ?_); go_simp; refine ⟨_, fun zt => ext_below (impl_clamped _ _ _ _), hK _ ?_⟩; clear hK K)
  repeat (quiet_step (fail))
  (refine wpQuiet_step (fun K hK => ?_); go_simp; refine ⟨_, fun zt => ext_below (impl_with 41 _ _ _ _ _ _ _ _ _ _ (fun _ _ _ => by kernel_rfl) (fun W _ => max1_c _ _ W) (fun W _ => max1_c _ _ W) (fun W _ => max1_c _ _ W)), hK _ ?_⟩; clear hK K)
  repeat (quiet_step (fail))
  (refine wpQuiet_nil ?_; intro X nX)
  go_wp2
  exact bodyPost_ret (v := vecV (max (cc x) (cc x2)) (max (cc y) (cc y2)) (max (cc z) (cc z2))) (by simp [results, Try.results19, go_sem]) rfl ⟨rfl, (by repeat (first | exact Below.refl _ _ | refine Below.drew ?_ | refine Below.alloc ?_ (by first | exact Nat.le_refl _ | (simp; done) | (simp; omega) | omega) _ | refine Below.more ?_ (by first | exact Nat.le_refl _ | (simp; done) | (simp; omega) | omega) _ _ | refine Below.setCell ?_ (by first | exact Nat.le_refl _ | (simp; done) | (simp; omega) | omega) _ | assumption))⟩
/-- The least and the greatest of the first k + 1, limited. -/
def loN (f : Nat → Int) : Nat → Int
  | 0 => cc (f 0)
  | k + 1 => min (cc (loN f k)) (cc (f (k + 1)))
def hiN (f : Nat → Int) : Nat → Int
  | 0 => cc (f 0)
  | k + 1 => max (cc (hiN f k)) (cc (f (k + 1)))
theorem loN_bd (f : Nat → Int) (k : Nat) : -1000000 ≤ loN f k ∧ loN f k ≤ 1000000 := by
  cases k with
  | zero => exact cc_bd _
  | succ k =>
    have h1 := cc_bd (loN f k)
    have h2 := cc_bd (f (k + 1))
    unfold loN; omega
theorem hiN_bd (f : Nat → Int) (k : Nat) : -1000000 ≤ hiN f k ∧ hiN f k ≤ 1000000 := by
  cases k with
  | zero => exact cc_bd _
  | succ k =>
    have h1 := cc_bd (hiN f k)
    have h2 := cc_bd (f (k + 1))
    unfold hiN; omega
theorem loN_le (f : Nat → Int) (k : Nat) : ∀ i, i ≤ k → loN f k ≤ cc (f i) := by
  induction k with
  | zero => intro i hi; obtain rfl : i = 0 := by omega
            exact Int.le_refl _
  | succ k ih =>
    intro i hi
    have h1 := cc_id (loN_bd f k)
    unfold loN
    rcases Nat.lt_or_ge k i with h | h
    · obtain rfl : i = k + 1 := by omega
      omega
    · have := ih i h; omega
theorem le_hiN (f : Nat → Int) (k : Nat) : ∀ i, i ≤ k → cc (f i) ≤ hiN f k := by
  induction k with
  | zero => intro i hi; obtain rfl : i = 0 := by omega
            exact Int.le_refl _
  | succ k ih =>
    intro i hi
    have h1 := cc_id (hiN_bd f k)
    unfold hiN
    rcases Nat.lt_or_ge k i with h | h
    · obtain rfl : i = k + 1 := by omega
      omega
    · have := ih i h; omega
/-- The box around the first k + 1 points. -/
@[reducible] def bndV (C : Nat → VecD) (k : Nat) : Value := boxV (loN (fun i => (C i).f0) k) (loN (fun i => (C i).f1) k) (loN (fun i => (C i).f2) k) (hiN (fun i => (C i).f0) k) (hiN (fun i => (C i).f1) k) (hiN (fun i => (C i).f2) k)
theorem inBnd (C : Nat → VecD) (k i : Nat) (hi : i ≤ k) (h : VOk (C i)) : InBox (loN (fun i => (C i).f0) k) (loN (fun i => (C i).f1) k) (loN (fun i => (C i).f2) k) (hiN (fun i => (C i).f0) k) (hiN (fun i => (C i).f1) k) (hiN (fun i => (C i).f2) k) (C i) := by
  have a1 := loN_le (fun i => (C i).f0) k i hi
  have a2 := loN_le (fun i => (C i).f1) k i hi
  have a3 := loN_le (fun i => (C i).f2) k i hi
  have b1 := le_hiN (fun i => (C i).f0) k i hi
  have b2 := le_hiN (fun i => (C i).f1) k i hi
  have b3 := le_hiN (fun i => (C i).f2) k i hi
  simp only [cc_id h.a] at a1 b1
  simp only [cc_id h.b] at a2 b2
  simp only [cc_id h.c] at a3 b3
  exact ⟨⟨a1, b1⟩, ⟨a2, b2⟩, ⟨a3, b3⟩⟩
def BoundQ (w : World) (k : Nat) (C : Nat → VecD) (e : Ending) (w' : World) : Prop := e = .returned (.tuple #[bndV C k, .bool true]) ∧ Below w.heap.size w w'
@[reducible] def boxL (x0 y0 z0 x1 y1 z1 : Int) : List Value := [.int .i64 x0, .int .i64 y0, .int .i64 z0, .int .i64 x1, .int .i64 y1, .int .i64 z1]
/-- The round of the loop: the box around the first k + 1 points lies in block b. -/
def BoundR (w : World) (b k : Nat) (C : Nat → VecD) (wr : World) : Prop :=
  wr.heap[b]? = some (.cells ⟨boxL (loN (fun i => (C i).f0) k) (loN (fun i => (C i).f1) k) (loN (fun i => (C i).f2) k) (hiN (fun i => (C i).f0) k) (hiN (fun i => (C i).f1) k) (hiN (fun i => (C i).f2) k)⟩ 31 (0, 0)) ∧
    wr.heap[w.heap.size]? = some (.cells ⟨boxL 0 0 0 0 0 0⟩ 31 (0, 0)) ∧ Below w.heap.size w wr
set_option maxRecDepth 100000 in
set_option maxHeartbeats 8000000 in
theorem impl_BoundPoints (a : Option Addr) (cap n : Nat) (C : Nat → VecD) (w : World) (hn : n + 1 ≤ cap) (hcap : cap ≤ 9223372036854775807) (hr : Sl w a 3 (n + 1) (fun i => (C i).cells)) :
    Calls Try.prog 6 #[.slice a (n + 1) cap] w (BoundQ w n C) := by
  obtain ⟨b, o, rfl, hb, hc⟩ := hr (by omega)
  have HC := Lib.hid hc
  have c0 : w.cell? ⟨b, o, none⟩ = some (.int .i64 (C 0).f0) := by have := hc 0 (by omega) 0 (by omega); simpa using this
  have c1 : w.cell? ⟨b, o + 1, none⟩ = some (.int .i64 (C 0).f1) := by have := hc 0 (by omega) 1 (by omega); simpa using this
  have c2 : w.cell? ⟨b, o + 2, none⟩ = some (.int .i64 (C 0).f2) := by have := hc 0 (by omega) 2 (by omega); simpa using this
  clear hc hr
  go_enter Try.func6, Try.ntmps6
  go_wp2
  ((first | refine region_box 9 31 (boxL 0 0 0 0 0 0) (boxL (cc (C 0).f0) (cc (C 0).f1) (cc (C 0).f2) (cc (C 0).f0) (cc (C 0).f1) (cc (C 0).f2)) (by kernel_rfl) (by kernel_rfl) ?_ | refine region_box0 9 31 (boxL 0 0 0 0 0 0) (boxL (cc (C 0).f0) (cc (C 0).f1) (cc (C 0).f2) (cc (C 0).f0) (cc (C 0).f1) (cc (C 0).f2)) (by kernel_rfl) (by kernel_rfl) ?_); simp only [List.take_succ_cons, List.take_zero, List.drop_succ_cons, List.drop_zero])
  repeat (refine headS_step (fun K hK => ?_); go_simp; refine hK _ ?_; clear hK K)
  (refine headS_step (fun K hK => ?_); go_simp; refine ⟨_, fun zt => calls_stays (impl_clamped _ _ _ _), hK _ ?_⟩; clear hK K)
  repeat (refine headS_step (fun K hK => ?_); go_simp; refine hK _ ?_; clear hK K)
  (refine headS_step (fun K hK => ?_); go_simp; refine ⟨_, fun zt => calls_stays (impl_clamped _ _ _ _), hK _ ?_⟩; clear hK K)
  repeat (refine headS_step (fun K hK => ?_); go_simp; refine hK _ ?_; clear hK K)
  refine headS_nil ?_
  refine tail_box (by go_simp) (fun X d => by go_simp) (fun b => by go_simp) (fun b w hb => by go_simp) (fun b => ?_)
  refine tail_done (fun X X2 d hb => ?_)
  simp only [World.size_alloc] at hb
  subst hb
  simp only [Act.put, List.setIfInBounds_toArray, List.set_cons_zero, List.set_cons_succ]
  have hcapn : cap = 1 → n = 0 := fun h => by omega
  by_cases hcap1 : cap = 1
  · obtain rfl : n = 0 := hcapn hcap1
    go_wp2
    refine wp_loop_rounds 1 ?_
    rw [rounds_succ]
    go_wp2
    exact bodyPost_ret (v := .tuple #[bndV C 0, .bool true]) (by simp [results, Try.results6, go_sem, loN, hiN]) rfl ⟨rfl, (by repeat (first | exact Below.refl _ _ | refine Below.drew ?_ | refine Below.alloc ?_ (by first | exact Nat.le_refl _ | (simp; done) | (simp; omega) | omega) _ | refine Below.more ?_ (by first | exact Nat.le_refl _ | (simp; done) | (simp; omega) | omega) _ _ | refine Below.setCell ?_ (by first | exact Nat.le_refl _ | (simp; done) | (simp; omega) | omega) _ | assumption))⟩
  · go_wp2
    go_loopw [23] (fun i wr => ∃ k : Nat, k ≤ n ∧ i = .int .i64 k ∧ BoundR w (w.heap.size + 1 + X.size) k C wr) (fun i _ => n - (intOf i).toNat)
    case atStart =>
      refine ⟨0, by omega, rfl, (by rw [heap_more _ (by simp)]; exact heap_at_new (by simp)), ?_, (by repeat (first | exact Below.refl _ _ | refine Below.drew ?_ | refine Below.alloc ?_ (by first | exact Nat.le_refl _ | (simp; done) | (simp; omega) | omega) _ | refine Below.more ?_ (by first | exact Nat.le_refl _ | (simp; done) | (simp; omega) | omega) _ _ | refine Below.setCell ?_ (by first | exact Nat.le_refl _ | (simp; done) | (simp; omega) | omega) _ | assumption))⟩
      · simp only [boxL]; rw [heap_more _ (by first | omega | (simp; omega)), Below.block (Below.alloc (Below.refl _ _) (Nat.le_refl _) _) _ (by first | omega | (simp; omega)), heap_more _ (by simp), heap_alloc_new]
    case round =>
      obtain ⟨k, hk, rfl, H4, H2, hbel⟩ := hrel
      have hl4 : w.heap.size + 1 + X.size < wr.heap.size := (Array.getElem?_eq_some_iff.1 H4).1
      have hl2 : w.heap.size < wr.heap.size := by omega
      have HBEL := Lib.hid hbel
      have HH2 := Lib.hid H2
      clear hbel
      have HE := Lib.hid (show ∀ k, (loN (fun i => (C i).f0) (k + 1) = min (cc (loN (fun i => (C i).f0) k)) (cc (C (k + 1)).f0)) ∧ (loN (fun i => (C i).f1) (k + 1) = min (cc (loN (fun i => (C i).f1) k)) (cc (C (k + 1)).f1)) ∧ (loN (fun i => (C i).f2) (k + 1) = min (cc (loN (fun i => (C i).f2) k)) (cc (C (k + 1)).f2)) ∧
        (hiN (fun i => (C i).f0) (k + 1) = max (cc (hiN (fun i => (C i).f0) k)) (cc (C (k + 1)).f0)) ∧ (hiN (fun i => (C i).f1) (k + 1) = max (cc (hiN (fun i => (C i).f1) k)) (cc (C (k + 1)).f1)) ∧ (hiN (fun i => (C i).f2) (k + 1) = max (cc (hiN (fun i => (C i).f2) k)) (cc (C (k + 1)).f2)) from fun k => ⟨rfl, rfl, rfl, rfl, rfl, rfl⟩)
      have HK := HE.out k
      clear HE
      have HV := Lib.hid (show bndV C k = boxV (loN (fun i => (C i).f0) k) (loN (fun i => (C i).f1) k) (loN (fun i => (C i).f2) k) (hiN (fun i => (C i).f0) k) (hiN (fun i => (C i).f1) k) (hiN (fun i => (C i).f2) k) from rfl)
      have HV2 := Lib.hid (show ∀ x0 y0 z0 x1 y1 z1, x0 = loN (fun i => (C i).f0) (k + 1) → y0 = loN (fun i => (C i).f1) (k + 1) → z0 = loN (fun i => (C i).f2) (k + 1) → x1 = hiN (fun i => (C i).f0) (k + 1) → y1 = hiN (fun i => (C i).f1) (k + 1) → z1 = hiN (fun i => (C i).f2) (k + 1) → boxL x0 y0 z0 x1 y1 z1 = boxL (loN (fun i => (C i).f0) (k + 1)) (loN (fun i => (C i).f1) (k + 1)) (loN (fun i => (C i).f2) (k + 1)) (hiN (fun i => (C i).f0) (k + 1)) (hiN (fun i => (C i).f1) (k + 1)) (hiN (fun i => (C i).f2) (k + 1)) from fun _ _ _ _ _ _ h1 h2 h3 h4 h5 h6 => by rw [h1, h2, h3, h4, h5, h6])
      generalize loN (fun i => (C i).f0) k = x0 at *
      generalize loN (fun i => (C i).f1) k = y0 at *
      generalize loN (fun i => (C i).f2) k = z0 at *
      generalize hiN (fun i => (C i).f0) k = x1 at *
      generalize hiN (fun i => (C i).f1) k = y1 at *
      generalize hiN (fun i => (C i).f2) k = z1 at *
      have HKK := Lib.hid HK
      clear HK
      by_cases hlt : k < n
      · have hk1 : (k : Int) < (n : Int) := by omega
        have hne : b ≠ w.heap.size + 1 + X.size := by omega
        have d0 : wr.cell? ⟨b, o + 3 + k * 3, none⟩ = some (.int .i64 (C (k + 1)).f0) := cell_below (HBEL.out.mono (Nat.le_refl _)) (by have := HC.out (k + 1) (by omega) 0 (by omega); rw [← show o + (k + 1) * 3 + 0 = o + 3 + k * 3 by omega]; simpa using this)
        have d1 : wr.cell? ⟨b, o + 3 + k * 3 + 1, none⟩ = some (.int .i64 (C (k + 1)).f1) := cell_below (HBEL.out.mono (Nat.le_refl _)) (by have := HC.out (k + 1) (by omega) 1 (by omega); rw [← show o + (k + 1) * 3 + 1 = o + 3 + k * 3 + 1 by omega]; simpa using this)
        have d2 : wr.cell? ⟨b, o + 3 + k * 3 + 2, none⟩ = some (.int .i64 (C (k + 1)).f2) := cell_below (HBEL.out.mono (Nat.le_refl _)) (by have := HC.out (k + 1) (by omega) 2 (by omega); rw [← show o + (k + 1) * 3 + 2 = o + 3 + k * 3 + 2 by omega]; simpa using this)
        generalize hD : C (k + 1) = D at *
        obtain ⟨u0, u1, u2⟩ := D
        dsimp only at d0 d1 d2 HKK
        clear hD
        rw [← putB_self H4]
        clear H4 H2
        go_wp2
        have hne2 : wr.heap.size ≠ w.heap.size + 1 + X.size := by omega
        refine region_box2 [(0, false), (1, true), (2, false), (3, false), (4, false), (5, true), (6, false), (7, false), (8, false)] [9, 10, 11] 9 (w.heap.size + 1 + X.size) 31 (fun m => match m with | 0 => boxL x0 y0 z0 x1 y1 z1 | 1 => boxL (min (cc x0) (cc u0)) (min (cc y0) (cc u1)) (min (cc z0) (cc u2)) x1 y1 z1 | _ => boxL (min (cc x0) (cc u0)) (min (cc y0) (cc u1)) (min (cc z0) (cc u2)) (max (cc x1) (cc u0)) (max (cc y1) (cc u1)) (max (cc z1) (cc u2))) (by kernel_rfl) (by kernel_rfl) (by rw [Below.block (Below.alloc (Below.refl _ _) (Nat.le_refl _) _) _ (by simp; omega), heap_putB hl4]; rfl) ?_
        repeat (refine headW_step rfl (fun K hK => ?_); go_simp; refine hK _ ?_; clear hK K)
        (refine headW_step rfl (fun K hK => ?_); go_simp; refine ⟨_, fun y => calls_stays (impl_MinVec _ _ _ _ _ _ _), hK _ ?_⟩; clear hK K)
        repeat (refine headW_step rfl (fun K hK => ?_); go_simp; refine hK _ ?_; clear hK K)
        (refine headW_step rfl (fun K hK => ?_); go_simp; refine ⟨_, fun y => calls_stays (impl_MaxVec _ _ _ _ _ _ _), hK _ ?_⟩; clear hK K)
        repeat (refine headW_step rfl (fun K hK => ?_); go_simp; refine hK _ ?_; clear hK K)
        refine headW_nil ?_
        refine tailW_step rfl (by go_simp) ?_
        rintro wq ⟨z, rfl⟩
        refine gives_skip (by go_simp) ⟨1, ⟨z, rfl⟩, (fun _ _ => rfl), ?_⟩
        refine tailW_step rfl (by go_simp) ?_
        rintro wq ⟨z, rfl⟩
        refine gives_value (u := .pointer (some ⟨w.heap.size + 1 + X.size, 3, none⟩)) (by go_simp) ⟨1, ⟨z, rfl⟩, (fun h => absurd h (by decide)), ?_⟩
        refine tailW_step rfl (by go_simp) ?_
        rintro wq ⟨z, rfl⟩
        refine gives_skip (by go_simp) ⟨2, ⟨z, rfl⟩, (fun h => absurd h (by decide)), ?_⟩
        refine tailW_nil ?_
        rintro wq ⟨z, rfl⟩
        simp only [Act.put, List.setIfInBounds_toArray]
        go_wp2
        go_roundw
        case rel =>
          obtain ⟨g1, g2, g3, g4, g5, g6⟩ := HKK.out
          refine ⟨k + 1, by omega, by go_num, ?_, ?_, ?_⟩
          · rw [heap_more _ (by simp; omega), heap_putB (by simp; omega)]
            exact congrArg (fun l => some (Obj.cells ⟨l⟩ 31 (0, 0))) (HV2.out _ _ _ _ _ _ g1.symm g2.symm g3.symm g4.symm g5.symm g6.symm)
          · rw [heap_more _ (by simp; omega), heap_putB_other _ (by omega), Below.block (Below.alloc (Below.refl _ _) (Nat.le_refl _) _) _ (by simp; omega), heap_putB_other _ (by omega)]
            exact HH2.out
          · refine Below.more (Below.trans ?_ (Below.putB (by omega))) (by simp; omega) _ _
            exact Below.alloc (HBEL.out.trans (Below.putB (by omega))) (by simp; omega) _
        case measure => simp [intOf]; omega
      · have hk1 : ¬ (k : Int) < (n : Int) := by omega
        obtain rfl : n = k := by omega
        have hne : w.heap.size ≠ w.heap.size + 1 + X.size := by omega
        have hne' := hne.symm
        have e2 := HH2.out
        have e3 : putB (putB wr w.heap.size (boxL 0 0 0 0 0 0) 31) (w.heap.size + 1 + X.size) (boxL x0 y0 z0 x1 y1 z1) 31 = wr := by rw [putB_self e2, putB_self H4]
        rw [← e3]
        clear H4 H2 e2 e3
        go_wp2
        exact bodyPost_ret (v := .tuple #[boxV x0 y0 z0 x1 y1 z1, .bool true]) (by simp [results, Try.results6, go_sem, hne, hl2]) rfl ⟨by rw [HV.out], (HBEL.out.trans (Below.putB (Nat.le_refl _))).trans (Below.putB (by omega))⟩
end Go.Proofs.Ytpfmcobkfofbjaa
namespace Go.Proofs.Ytpfmcobkfofbjaa
open Go Go.RowKit
@[reducible] def cornersV (x0 y0 z0 x1 y1 z1 : Int) : Value := .tuple #[vecV x0 y0 z0, vecV x1 y1 z1]
set_option maxRecDepth 100000 in
set_option maxHeartbeats 2000000 in
theorem impl_corners (x0 y0 z0 x1 y1 z1 : Int) (w : World) :
    Calls Try.prog 26 #[boxV x0 y0 z0 x1 y1 z1] w fun e w' => e = .returned (cornersV x0 y0 z0 x1 y1 z1) ∧ Below w.heap.size w w' := by
  go_enter Try.func26, Try.ntmps26
  go_wp2
  go_region
  all_goals
    go_wp2
    exact bodyPost_ret (v := cornersV x0 y0 z0 x1 y1 z1) (by simp [results, Try.results26, go_sem]) rfl ⟨rfl, (by repeat (first | exact Below.refl _ _ | refine Below.drew ?_ | refine Below.alloc ?_ (by first | exact Nat.le_refl _ | (simp; done) | (simp; omega) | omega) _ | refine Below.more ?_ (by first | exact Nat.le_refl _ | (simp; done) | (simp; omega) | omega) _ _ | refine Below.setCell ?_ (by first | exact Nat.le_refl _ | (simp; done) | (simp; omega) | omega) _ | assumption))⟩
theorem impl_atMost (a b c d e' f : Int) (h1 : a ≤ d) (h2 : b ≤ e') (h3 : c ≤ f) (w : World) :
    Calls Try.prog 27 #[vecV a b c, vecV d e' f] w fun e w' => e = .returned (.bool true) ∧ Below w.heap.size w w' := by
  go_enter Try.func27, Try.ntmps27
  go_wp2
  all_goals (go_ret; exact ⟨rfl, (by repeat (first | exact Below.refl _ _ | refine Below.drew ?_ | refine Below.alloc ?_ (by first | exact Nat.le_refl _ | (simp; done) | (simp; omega) | omega) _ | refine Below.more ?_ (by first | exact Nat.le_refl _ | (simp; done) | (simp; omega) | omega) _ _ | refine Below.setCell ?_ (by first | exact Nat.le_refl _ | (simp; done) | (simp; omega) | omega) _ | assumption))⟩)
set_option maxRecDepth 100000 in
theorem impl_BoxContains (x0 y0 z0 x1 y1 z1 x y z : Int) (h : InBox x0 y0 z0 x1 y1 z1 ⟨x, y, z⟩) (w : World) :
    Calls Try.prog 8 #[boxV x0 y0 z0 x1 y1 z1, vecV x y z] w fun e w' => e = .returned (.bool true) ∧ Below w.heap.size w w' := by
  have H := Lib.hid h
  clear h
  go_enter Try.func8, Try.ntmps8
  go_wp2_with fail
  refine (impl_corners _ _ _ _ _ _ _).mono ?_
  rintro e wn ⟨rfl, hbn⟩; obtain ⟨X, nX, rfl⟩ := Below.ext hbn; clear hbn
  go_wp2_with fail
  refine (impl_atMost _ _ _ _ _ _ H.out.a.1 H.out.b.1 H.out.c.1 _).mono ?_
  rintro e wn ⟨rfl, hbn⟩; obtain ⟨X, nX, rfl⟩ := Below.ext hbn; clear hbn
  go_wp2_with fail
  refine (impl_atMost _ _ _ _ _ _ H.out.a.2 H.out.b.2 H.out.c.2 _).mono ?_
  rintro e wn ⟨rfl, hbn⟩; obtain ⟨X, nX, rfl⟩ := Below.ext hbn; clear hbn
  go_wp2
  go_ret
  exact ⟨rfl, (by repeat (first | exact Below.refl _ _ | refine Below.drew ?_ | refine Below.alloc ?_ (by first | exact Nat.le_refl _ | (simp; done) | (simp; omega) | omega) _ | refine Below.more ?_ (by first | exact Nat.le_refl _ | (simp; done) | (simp; omega) | omega) _ _ | refine Below.setCell ?_ (by first | exact Nat.le_refl _ | (simp; done) | (simp; omega) | omega) _ | assumption))⟩
end Go.Proofs.Ytpfmcobkfofbjaa
