/- Contracts of Lerp. -/
import Derived.Test.YtkdkdejgajcneaaVec
import Derived.Test.YtkdkdejgajcneaaMath2
import Derived.Test.YtkdkdejgajcneaaLt
import Derived.IntWalk
namespace Go.Proofs.Ytkdkdejgajcneaa
open Go.RowKit
theorem cc_bd (x : Int) : -1000000 ≤ cc x ∧ cc x ≤ 1000000 := clamp_bd (by omega)
/-- Are n and i those of an interpolation? -/
def lerpOk (i n : Int) : Bool := inB n 1 4096 && inB i 0 n
/-- One part, interpolated. -/
def lerpI (x y i n : Int) : Int := if lerpOk i n then fdivI ((n - i) * cc x + i * cc y) n else cc x
structure LerpBd (x y i n : Int) : Prop where
  a : In64 ((n - i) * cc x)
  b : In64 (i * cc y)
  c : In64 ((n - i) * cc x + i * cc y)
  d : -4096000000 ≤ (n - i) * cc x ∧ (n - i) * cc x ≤ 4096000000
  e : -4096000000 ≤ i * cc y ∧ i * cc y ≤ 4096000000
theorem lerpBd {i n : Int} (h : lerpOk i n = true) (x y : Int) : LerpBd x y i n := by
  simp only [lerpOk, Bool.and_eq_true, inB_true] at h
  have h1 := mul_bd (x := n - i) (y := cc x) (a := 4096) (b := 1000000) (by omega) (by have := cc_bd x; omega)
  have h2 := mul_bd (x := i) (y := cc y) (a := 4096) (b := 1000000) (by omega) (by have := cc_bd y; omega)
  refine ⟨⟨by omega, by omega⟩, ⟨by omega, by omega⟩, ⟨by omega, by omega⟩, by omega, by omega⟩
@[reducible] def lerpV (x y z x2 y2 z2 i n : Int) : Value := .agg #[.int .i64 (lerpI x x2 i n), .int .i64 (lerpI y y2 i n), .int .i64 (lerpI z z2 i n)]
set_option maxRecDepth 100000 in
set_option maxHeartbeats 1000000 in
theorem impl_Lerp (x y z x2 y2 z2 i n : Int) (w : World) :
    Calls Try.prog 79 #[vecV x y z, vecV x2 y2 z2, .int .i64 i, .int .i64 n] w fun e w' => e = .returned (lerpV x y z x2 y2 z2 i n) ∧ Below w.heap.size w w' := by
  cases hok : lerpOk i n
  · go_enter Try.func79, Try.ntmps79
    go_wp2
    ((first | refine region_qt2 4 (by kernel_rfl) (by kernel_rfl) ?_ | refine region_qt 4 (by kernel_rfl) (by kernel_rfl) ?_); simp only [List.take_succ_cons, List.take_zero, List.drop_succ_cons, List.drop_zero])
    repeat (quiet_step (fail))
    (refine wpQuiet_step (fun K hK => ?_); go_simp; refine ⟨_, fun zt => ext_below (impl_clamped _ _ _ _), hK _ ?_⟩; clear hK K)
    repeat (quiet_step (fail))
    (refine wpQuiet_step (fun K hK => ?_); go_simp; refine ⟨_, fun zt => ext_below (impl_clamped _ _ _ _), hK _ ?_⟩; clear hK K)
    repeat (quiet_step (fail))
    (refine wpQuiet_nil ?_; intro X nX)
    go_wp2_with (go_at_call 62; refine (within_c _ _ _ _).mono ?_; rintro e w' ⟨rfl, rfl⟩)
    all_goals first
      | exact bodyPost_ret (v := lerpV x y z x2 y2 z2 i n) (by simp [results, Try.results79, go_sem, lerpI, hok]) rfl ⟨rfl, (by repeat (first | exact Below.refl _ _ | refine Below.drew ?_ | refine Below.alloc ?_ (by first | exact Nat.le_refl _ | (simp; done) | (simp; omega) | omega) _ | refine Below.more ?_ (by first | exact Nat.le_refl _ | (simp; done) | (simp; omega) | omega) _ _ | refine Below.setCell ?_ (by first | exact Nat.le_refl _ | (simp; done) | (simp; omega) | omega) _ | assumption))⟩
      | (exfalso; simp_all [lerpOk]; done)
  · have hh := hok
    simp only [lerpOk, Bool.and_eq_true] at hh
    obtain ⟨hn, hi⟩ := hh
    have hn1 := (inB_true.1 hn).1
    have hn2 := (inB_true.1 hn).2
    have hi1 := (inB_true.1 hi).1
    have hi2 := (inB_true.1 hi).2
    have bx := Lib.hid (lerpBd hok x x2)
    have by' := Lib.hid (lerpBd hok y y2)
    have bz := Lib.hid (lerpBd hok z z2)
    go_enter Try.func79, Try.ntmps79
    go_wp2
    ((first | refine region_qt2 4 (by kernel_rfl) (by kernel_rfl) ?_ | refine region_qt 4 (by kernel_rfl) (by kernel_rfl) ?_); simp only [List.take_succ_cons, List.take_zero, List.drop_succ_cons, List.drop_zero])
    repeat (quiet_step (fail))
    (refine wpQuiet_step (fun K hK => ?_); go_simp; refine ⟨_, fun zt => ext_below (impl_clamped _ _ _ _), hK _ ?_⟩; clear hK K)
    repeat (quiet_step (fail))
    (refine wpQuiet_step (fun K hK => ?_); go_simp; refine ⟨_, fun zt => ext_below (impl_clamped _ _ _ _), hK _ ?_⟩; clear hK K)
    repeat (quiet_step (fail))
    (refine wpQuiet_nil ?_; intro X nX)
    go_wp2_with (go_at_call 62; refine (within_c _ _ _ _).mono ?_; rintro e w' ⟨rfl, rfl⟩)
    have q1 : IntKind.i64.wrap (n - i) = n - i := IntWalk.i64_in _ (by omega)
    ((first | refine region_qt2 11 (by kernel_rfl) (by kernel_rfl) ?_ | refine region_qt 11 (by kernel_rfl) (by kernel_rfl) ?_); simp only [List.take_succ_cons, List.take_zero, List.drop_succ_cons, List.drop_zero])
    repeat (quiet_step (fail))
    (refine wpQuiet_step (fun K hK => ?_); go_simp; refine ⟨_, fun zt => ext_below (impl_times _ _ _ _ _ bx.out.a by'.out.a bz.out.a), hK _ ?_⟩; clear hK K)
    repeat (quiet_step (fail))
    (refine wpQuiet_step (fun K hK => ?_); go_simp; refine ⟨_, fun zt => ext_below (impl_times _ _ _ _ _ bx.out.b by'.out.b bz.out.b), hK _ ?_⟩; clear hK K)
    repeat (quiet_step (fail))
    (refine wpQuiet_step (fun K hK => ?_); go_simp; refine ⟨_, fun zt => ext_below (impl_plus _ _ _ _ _ _ _ bx.out.c by'.out.c bz.out.c), hK _ ?_⟩; clear hK K)
    repeat (quiet_step (fail))
    (refine wpQuiet_step (fun K hK => ?_); go_simp; refine ⟨_, fun zt => ext_below (impl_over _ _ _ _ _ bx.out.c by'.out.c bz.out.c), hK _ ?_⟩; clear hK K)
    repeat (quiet_step (fail))
    (refine wpQuiet_nil ?_; intro X nX)
    go_wp2
    exact bodyPost_ret (v := lerpV x y z x2 y2 z2 i n) (by simp [results, Try.results79, go_sem, lerpI, hok]) rfl ⟨rfl, (by repeat (first | exact Below.refl _ _ | refine Below.drew ?_ | refine Below.alloc ?_ (by first | exact Nat.le_refl _ | (simp; done) | (simp; omega) | omega) _ | refine Below.more ?_ (by first | exact Nat.le_refl _ | (simp; done) | (simp; omega) | omega) _ _ | refine Below.setCell ?_ (by first | exact Nat.le_refl _ | (simp; done) | (simp; omega) | omega) _ | assumption))⟩
set_option maxRecDepth 100000 in
set_option maxHeartbeats 2000000 in
theorem spec_Lerp (x y z x2 y2 z2 i n : Int) (w : World) :
    Calls Try.prog 85 #[vecV x y z, vecV x2 y2 z2, .int .i64 i, .int .i64 n] w fun e w' => e = .returned (lerpV x y z x2 y2 z2 i n) ∧ Below w.heap.size w w' := by
  cases hok : lerpOk i n
  · go_enter Try.func85, Try.ntmps85
    go_wp2_with (first | (go_at_call 101; refine (spec_l02V _ _ _ _).mono ?_; rintro e wn ⟨rfl, hbn⟩; obtain ⟨X, nX, rfl⟩ := Below.ext hbn; clear hbn) | (go_at_call 68; refine (l01In_c _ _ _ _).mono ?_; rintro e w' ⟨rfl, rfl⟩))
    all_goals first
      | exact bodyPost_ret (v := lerpV x y z x2 y2 z2 i n) (by simp [results, Try.results85, go_sem, lerpI, hok]) rfl ⟨rfl, (by repeat (first | exact Below.refl _ _ | refine Below.drew ?_ | refine Below.alloc ?_ (by first | exact Nat.le_refl _ | (simp; done) | (simp; omega) | omega) _ | refine Below.more ?_ (by first | exact Nat.le_refl _ | (simp; done) | (simp; omega) | omega) _ _ | refine Below.setCell ?_ (by first | exact Nat.le_refl _ | (simp; done) | (simp; omega) | omega) _ | assumption))⟩
      | (exfalso; simp_all [lerpOk]; done)
  · have hh := hok
    simp only [lerpOk, Bool.and_eq_true] at hh
    obtain ⟨hn, hi⟩ := hh
    have hn1 := (inB_true.1 hn).1
    have hn2 := (inB_true.1 hn).2
    have hi1 := (inB_true.1 hi).1
    have hi2 := (inB_true.1 hi).2
    obtain ⟨_, _, _, ⟨x1, x1'⟩, ⟨x3, x3'⟩⟩ := lerpBd hok x x2
    obtain ⟨_, _, _, ⟨y1, y1'⟩, ⟨y3, y3'⟩⟩ := lerpBd hok y y2
    obtain ⟨_, _, _, ⟨z1, z1'⟩, ⟨z3, z3'⟩⟩ := lerpBd hok z z2
    have exy := fun a b : Int => Int.mul_comm a b
    have EXY := Lib.hid exy
    rw [Int.mul_comm] at x1 x1' x3 x3' y1 y1' y3 y3' z1 z1' z3 z3'
    clear exy
    go_enter Try.func85, Try.ntmps85
    go_wp2_with (first | (go_at_call 101; refine (spec_l02V _ _ _ _).mono ?_; rintro e wn ⟨rfl, hbn⟩; obtain ⟨X, nX, rfl⟩ := Below.ext hbn; clear hbn) | (go_at_call 68; refine (l01In_c _ _ _ _).mono ?_; rintro e w' ⟨rfl, rfl⟩))
    have q1 : IntKind.i64.wrap (n - i) = n - i := IntWalk.i64_in _ (by omega)
    have q2 : IntKind.i64.wrap (cc x * (n - i)) = cc x * (n - i) := IntWalk.i64_in _ (by omega)
    have q3 : IntKind.i64.wrap (cc x2 * i) = cc x2 * i := IntWalk.i64_in _ (by omega)
    have q4 : IntKind.i64.wrap (cc x * (n - i) + cc x2 * i) = cc x * (n - i) + cc x2 * i := IntWalk.i64_in _ (by omega)
    have q5 : IntKind.i64.wrap (cc y * (n - i)) = cc y * (n - i) := IntWalk.i64_in _ (by omega)
    have q6 : IntKind.i64.wrap (cc y2 * i) = cc y2 * i := IntWalk.i64_in _ (by omega)
    have q7 : IntKind.i64.wrap (cc y * (n - i) + cc y2 * i) = cc y * (n - i) + cc y2 * i := IntWalk.i64_in _ (by omega)
    have q8 : IntKind.i64.wrap (cc z * (n - i)) = cc z * (n - i) := IntWalk.i64_in _ (by omega)
    have q9 : IntKind.i64.wrap (cc z2 * i) = cc z2 * i := IntWalk.i64_in _ (by omega)
    have q10 : IntKind.i64.wrap (cc z * (n - i) + cc z2 * i) = cc z * (n - i) + cc z2 * i := IntWalk.i64_in _ (by omega)
    have bx := Lib.hid (show (-9223372036854775808 ≤ cc x * (n - i) + cc x2 * i ∧ cc x * (n - i) + cc x2 * i ≤ 9223372036854775807) by omega)
    have by' := Lib.hid (show (-9223372036854775808 ≤ cc y * (n - i) + cc y2 * i ∧ cc y * (n - i) + cc y2 * i ≤ 9223372036854775807) by omega)
    have bz := Lib.hid (show (-9223372036854775808 ≤ cc z * (n - i) + cc z2 * i ∧ cc z * (n - i) + cc z2 * i ≤ 9223372036854775807) by omega)
    ((first | refine region_qt2 40 (by kernel_rfl) (by kernel_rfl) ?_ | refine region_qt 40 (by kernel_rfl) (by kernel_rfl) ?_); simp only [List.take_succ_cons, List.take_zero, List.drop_succ_cons, List.drop_zero])
    repeat (quiet_step (fail))
    (refine wpQuiet_step (fun K hK => ?_); go_simp; refine ⟨_, fun zt => ext_same (spec_FloorDiv _ _ _ bx.out.1 bx.out.2), hK _ ?_⟩; clear hK K)
    repeat (quiet_step (fail))
    (refine wpQuiet_step (fun K hK => ?_); go_simp; refine ⟨_, fun zt => ext_same (spec_FloorDiv _ _ _ by'.out.1 by'.out.2), hK _ ?_⟩; clear hK K)
    repeat (quiet_step (fail))
    (refine wpQuiet_step (fun K hK => ?_); go_simp; refine ⟨_, fun zt => ext_same (spec_FloorDiv _ _ _ bz.out.1 bz.out.2), hK _ ?_⟩; clear hK K)
    repeat (quiet_step (fail))
    (refine wpQuiet_nil ?_; intro X nX)
    go_wp2
    exact bodyPost_ret (v := lerpV x y z x2 y2 z2 i n) (by simp [results, Try.results85, go_sem, lerpI, hok, Int.mul_comm]) rfl ⟨rfl, (by repeat (first | exact Below.refl _ _ | refine Below.drew ?_ | refine Below.alloc ?_ (by first | exact Nat.le_refl _ | (simp; done) | (simp; omega) | omega) _ | refine Below.more ?_ (by first | exact Nat.le_refl _ | (simp; done) | (simp; omega) | omega) _ _ | refine Below.setCell ?_ (by first | exact Nat.le_refl _ | (simp; done) | (simp; omega) | omega) _ | assumption))⟩
end Go.Proofs.Ytkdkdejgajcneaa
